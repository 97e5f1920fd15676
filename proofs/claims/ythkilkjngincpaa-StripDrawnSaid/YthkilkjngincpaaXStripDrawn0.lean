/- Printed by program: the functions' code in few words; the kernel checks it against the translation. -/
import Derived.Test.YthkilkjngincpaaRows
import Derived.Test.YthkilkjngincpaaLiteTP
namespace Go.Proofs.Ythkilkjngincpaa
open Go Go.Lite
set_option linter.unusedVariables false

/-- Int -/
abbrev Ey : Nat := 0
/-- Int -/
abbrev Ei : Nat := 2
/-- Int × Int × Int × Int × Int -/
abbrev E5i : Nat := 3
/-- Int × Int × List (Int) -/
abbrev E2iLyJ : Nat := 4
/-- Int × Int × Int × Int -/
abbrev E4i : Nat := 5
@[reducible] def A (e : Nat) : Type := match e with
  | 0 => Int
  | 1 => Bool
  | 2 => Int
  | 3 => Int × Int × Int × Int × Int
  | 4 => Int × Int × List (Int)
  | 5 => Int × Int × Int × Int
  | 6 => Int × Int × Int × Int × Int × Int
  | _ => Unit
def eSz (e : Nat) : Nat := match e with
  | 0 => 1
  | 1 => 1
  | 2 => 1
  | 3 => 5
  | 4 => 3
  | 5 => 4
  | 6 => 6
  | _ => 1
def eD (e : Nat) : A e := match e with
  | 0 => (0 : Int)
  | 1 => false
  | 2 => (0 : Int)
  | 3 => ((0 : Int), (0 : Int), (0 : Int), (0 : Int), (0 : Int))
  | 4 => ((0 : Int), (0 : Int), ([] : List (Int)))
  | 5 => ((0 : Int), (0 : Int), (0 : Int), (0 : Int))
  | 6 => ((0 : Int), (0 : Int), (0 : Int), (0 : Int), (0 : Int), (0 : Int))
  | _ + 7 => ()
def encL0 (x : Int) : List LV := [.int .u8 (x)]
def enc0 (x : Int) : List (TV A) := [.int .u8 (x)]
def dec0 (cs : List (TV A)) : Option (Int) := match cs with
  | [.int .u8 x0] => some x0
  | _ => none
def encL1 (x : Bool) : List LV := [.bool (x)]
def enc1 (x : Bool) : List (TV A) := [.bool (x)]
def dec1 (cs : List (TV A)) : Option (Bool) := match cs with
  | [.bool x0] => some x0
  | _ => none
def encL2 (x : Int) : List LV := [.int .i64 (x)]
def enc2 (x : Int) : List (TV A) := [.int .i64 (x)]
def dec2 (cs : List (TV A)) : Option (Int) := match cs with
  | [.int .i64 x0] => some x0
  | _ => none
def encL3 (x : Int × Int × Int × Int × Int) : List LV := [.int .i64 (x.1), .int .i64 (x.2.1), .int .i64 (x.2.2.1), .int .i64 (x.2.2.2.1), .int .i64 (x.2.2.2.2)]
def enc3 (x : Int × Int × Int × Int × Int) : List (TV A) := [.int .i64 (x.1), .int .i64 (x.2.1), .int .i64 (x.2.2.1), .int .i64 (x.2.2.2.1), .int .i64 (x.2.2.2.2)]
def dec3 (cs : List (TV A)) : Option (Int × Int × Int × Int × Int) := match cs with
  | [.int .i64 x0, .int .i64 x1, .int .i64 x2, .int .i64 x3, .int .i64 x4] => some (x0, x1, x2, x3, x4)
  | _ => none
def encL4 (x : Int × Int × List (Int)) : List LV := [.int .i64 (x.1), .int .i64 (x.2.1), .ps 1 (List.length (x.2.2)) (List.flatMap encL0 (x.2.2))]
def enc4 (x : Int × Int × List (Int)) : List (TV A) := [.int .i64 (x.1), .int .i64 (x.2.1), .lst 0 (x.2.2)]
def dec4 (cs : List (TV A)) : Option (Int × Int × List (Int)) := match cs with
  | [.int .i64 x0, .int .i64 x1, .lst 0 x2] => some (x0, x1, x2)
  | _ => none
def encL5 (x : Int × Int × Int × Int) : List LV := [.int .i64 (x.1), .int .i64 (x.2.1), .int .i64 (x.2.2.1), .int .i64 (x.2.2.2)]
def enc5 (x : Int × Int × Int × Int) : List (TV A) := [.int .i64 (x.1), .int .i64 (x.2.1), .int .i64 (x.2.2.1), .int .i64 (x.2.2.2)]
def dec5 (cs : List (TV A)) : Option (Int × Int × Int × Int) := match cs with
  | [.int .i64 x0, .int .i64 x1, .int .i64 x2, .int .i64 x3] => some (x0, x1, x2, x3)
  | _ => none
def encL6 (x : Int × Int × Int × Int × Int × Int) : List LV := [.int .i64 (x.1), .int .i64 (x.2.1), .int .i64 (x.2.2.1), .int .i64 (x.2.2.2.1), .int .i64 (x.2.2.2.2.1), .int .i64 (x.2.2.2.2.2)]
def enc6 (x : Int × Int × Int × Int × Int × Int) : List (TV A) := [.int .i64 (x.1), .int .i64 (x.2.1), .int .i64 (x.2.2.1), .int .i64 (x.2.2.2.1), .int .i64 (x.2.2.2.2.1), .int .i64 (x.2.2.2.2.2)]
def dec6 (cs : List (TV A)) : Option (Int × Int × Int × Int × Int × Int) := match cs with
  | [.int .i64 x0, .int .i64 x1, .int .i64 x2, .int .i64 x3, .int .i64 x4, .int .i64 x5] => some (x0, x1, x2, x3, x4, x5)
  | _ => none
def eEncL (e : Nat) (a : A e) : List LV := match e, a with
  | 0, a => encL0 a
  | 1, a => encL1 a
  | 2, a => encL2 a
  | 3, a => encL3 a
  | 4, a => encL4 a
  | 5, a => encL5 a
  | 6, a => encL6 a
  | _ + 7, _ => [.nilp]
def eEnc (e : Nat) (a : A e) : List (TV A) := match e, a with
  | 0, a => enc0 a
  | 1, a => enc1 a
  | 2, a => enc2 a
  | 3, a => enc3 a
  | 4, a => enc4 a
  | 5, a => enc5 a
  | 6, a => enc6 a
  | _ + 7, _ => [.nilp]
def eDec (e : Nat) (cs : List (TV A)) : Option (A e) := match e with
  | 0 => dec0 cs
  | 1 => dec1 cs
  | 2 => dec2 cs
  | 3 => dec3 cs
  | 4 => dec4 cs
  | 5 => dec5 cs
  | 6 => dec6 cs
  | _ + 7 => none
def eEl (t : Nat) : Option Nat := match t with
  | 22 => some 0
  | 41 => some 1
  | 38 => some 2
  | 61 => some 3
  | 64 => some 4
  | 67 => some 4
  | 70 => some 5
  | 85 => some 0
  | 125 => some 6
  | 127 => some 2
  | 136 => some 2
  | _ => none
def fl (e : Nat) : Bool := match e with
  | 0 => true
  | 1 => true
  | 2 => true
  | 3 => true
  | 4 => false
  | 5 => true
  | 6 => true
  | _ => false
def eByt (e : Nat) : Option (List (A e) → List Int) := match e with
  | 0 => some fun xs => xs
  | _ => none
theorem flat1 : ∀ xs : List Int, xs.flatMap (fun x => [LV.int .u8 x]) = xs.map (LV.int .u8)
  | [] => rfl
  | x :: r => congrArg (LV.int .u8 x :: ·) (flat1 r)
def R : Reg A := ⟨eSz, eD, eEncL, eEnc, eDec, eEl, eByt⟩
theorem R_ok : R.Ok where
  pos e := by show 0 < eSz e; unfold eSz; split <;> decide
  len e a := match e, a with
    | 0, a => rfl
    | 1, a => rfl
    | 2, a => rfl
    | 3, a => rfl
    | 4, a => rfl
    | 5, a => rfl
    | 6, a => rfl
    | e + 7, a => rfl
  ok e a := match e, a with
    | 0, a => rfl
    | 1, a => rfl
    | 2, a => rfl
    | 3, a => rfl
    | 4, a => rfl
    | 5, a => rfl
    | 6, a => rfl
    | e + 7, a => rfl
  dec e cs a h := match e, a, h with
    | 0, a, h => by
      replace h : dec0 cs = some a := h
      unfold dec0 at h
      split at h
      · cases h; rfl
      · cases h
    | 1, a, h => by
      replace h : dec1 cs = some a := h
      unfold dec1 at h
      split at h
      · cases h; rfl
      · cases h
    | 2, a, h => by
      replace h : dec2 cs = some a := h
      unfold dec2 at h
      split at h
      · cases h; rfl
      · cases h
    | 3, a, h => by
      replace h : dec3 cs = some a := h
      unfold dec3 at h
      split at h
      · cases h; rfl
      · cases h
    | 4, a, h => by
      replace h : dec4 cs = some a := h
      unfold dec4 at h
      split at h
      · cases h; rfl
      · cases h
    | 5, a, h => by
      replace h : dec5 cs = some a := h
      unfold dec5 at h
      split at h
      · cases h; rfl
      · cases h
    | 6, a, h => by
      replace h : dec6 cs = some a := h
      unfold dec6 at h
      split at h
      · cases h; rfl
      · cases h
    | e + 7, a, h => by cases h
  free e a := match e, a with
    | 0, a => rfl
    | 1, a => rfl
    | 2, a => rfl
    | 3, a => rfl
    | 4, a => rfl
    | 5, a => rfl
    | 6, a => rfl
    | e + 7, a => rfl
  sol e a := match e, a with
    | 0, a => rfl
    | 1, a => rfl
    | 2, a => rfl
    | 3, a => rfl
    | 4, a => rfl
    | 5, a => rfl
    | 6, a => rfl
    | e + 7, a => rfl
  byt e f h xs := match e, f, h with
    | 0, f, h => by cases h; exact flat1 xs
    | 1, f, h => by cases h
    | 2, f, h => by cases h
    | 3, f, h => by cases h
    | 4, f, h => by cases h
    | 5, f, h => by cases h
    | 6, f, h => by cases h
    | e + 7, f, h => by cases h
theorem fl_ok : ∀ e, fl e = true → ∀ a, psfreeL (R.encL e a) = true := fun e h a => match e, h, a with
  | 0, h, a => rfl
  | 1, h, a => rfl
  | 2, h, a => rfl
  | 3, h, a => rfl
  | 4, h, a => by cases h
  | 5, h, a => rfl
  | 6, h, a => rfl
  | e + 7, h, a => rfl

def tyL : List (Nat × TI) := [(0, ⟨.other, 1, false, [.dead]⟩),
  (3, ⟨.int .i64, 1, false, [.int .i64 0]⟩),
  (25, ⟨.int .i64, 1, false, [.int .i64 0]⟩),
  (22, ⟨.slice 1 1 [.int .u8 0], 1, false, [.nils]⟩),
  (29, ⟨.struct [(0, 1, false), (1, 1, false), (2, 1, false)], 3, true, [.int .i64 0, .int .i64 0, .nils]⟩),
  (5, ⟨.int .u8, 1, false, [.int .u8 0]⟩),
  (41, ⟨.slice 1 1 [.bool false], 1, false, [.nils]⟩),
  (38, ⟨.slice 1 8 [.int .i64 0], 1, false, [.nils]⟩),
  (4, ⟨.bool, 1, false, [.bool false]⟩),
  (52, ⟨.struct [(0, 1, false), (1, 1, false), (2, 1, false), (3, 1, false), (4, 1, false), (5, 1, false), (6, 1, false), (7, 1, false)], 8, true, [.int .i64 0, .int .i64 0, .int .i64 0, .int .i64 0, .int .i64 0, .int .i64 0, .int .i64 0, .nils]⟩),
  (56, ⟨.struct [(0, 1, false), (1, 1, false), (2, 1, false)], 3, true, [.int .i64 0, .int .i64 0, .nils]⟩),
  (9, ⟨.str, 1, false, [.str ⟨([] : List UInt8).toArray⟩]⟩),
  (61, ⟨.slice 5 40 [.int .i64 0, .int .i64 0, .int .i64 0, .int .i64 0, .int .i64 0], 1, false, [.nils]⟩),
  (64, ⟨.slice 3 40 [.int .i64 0, .int .i64 0, .nils], 1, false, [.nils]⟩),
  (68, ⟨.struct [(0, 1, false), (1, 1, false), (2, 1, false)], 3, true, [.int .i64 0, .int .i64 0, .nils]⟩),
  (67, ⟨.slice 3 40 [.int .i64 0, .int .i64 0, .nils], 1, false, [.nils]⟩),
  (70, ⟨.slice 4 32 [.int .i64 0, .int .i64 0, .int .i64 0, .int .i64 0], 1, false, [.nils]⟩),
  (74, ⟨.struct [(0, 1, false), (1, 1, false), (2, 1, false), (3, 1, false)], 4, true, [.int .i64 0, .int .i64 0, .int .i64 0, .int .i64 0]⟩),
  (81, ⟨.other, 1, false, [.nilp]⟩),
  (85, ⟨.slice 1 1 [.int .u8 0], 1, false, [.nils]⟩),
  (105, ⟨.other, 1, false, [.nilp]⟩),
  (113, ⟨.struct [(0, 1, false), (1, 1, false)], 2, true, [.int .i64 0, .int .i64 0]⟩),
  (117, ⟨.struct [(0, 1, false), (1, 1, false), (2, 1, false), (3, 1, false), (4, 1, false)], 5, true, [.int .i64 0, .int .i64 0, .int .i64 0, .int .i64 0, .int .i64 0]⟩),
  (121, ⟨.other, 1, false, [.nilf]⟩),
  (125, ⟨.slice 6 48 [.int .i64 0, .int .i64 0, .int .i64 0, .int .i64 0, .int .i64 0, .int .i64 0], 1, false, [.nils]⟩),
  (127, ⟨.arr 6 1 false, 6, true, [.int .i64 0, .int .i64 0, .int .i64 0, .int .i64 0, .int .i64 0, .int .i64 0]⟩),
  (134, ⟨.struct [(0, 1, false), (1, 1, false), (2, 1, false)], 3, true, [.int .i64 0, .int .i64 0, .int .i64 0]⟩),
  (135, ⟨.other, 1, false, [.nilf]⟩),
  (136, ⟨.arr 4 1 false, 4, true, [.int .i64 0, .int .i64 0, .int .i64 0, .int .i64 0]⟩),
  (137, ⟨.other, 1, false, [.nilf]⟩)]
theorem tyL_ok : okL (tiOf Try.prog) tyL := ⟨by kernel_rfl, by kernel_rfl, by kernel_rfl, by kernel_rfl, by kernel_rfl, by kernel_rfl, by kernel_rfl, by kernel_rfl, by kernel_rfl, by kernel_rfl, by kernel_rfl, by kernel_rfl, by kernel_rfl, by kernel_rfl, by kernel_rfl, by kernel_rfl, by kernel_rfl, by kernel_rfl, by kernel_rfl, by kernel_rfl, by kernel_rfl, by kernel_rfl, by kernel_rfl, by kernel_rfl, by kernel_rfl, by kernel_rfl, by kernel_rfl, by kernel_rfl, by kernel_rfl, by kernel_rfl, trivial⟩
def eqL : List (Nat × List Nat) := [(74, [0, 0, 0, 0]), (117, [0, 0, 0, 0, 0]), (113, [0, 0])]
theorem eqL_ok : okL (eqOf Try.prog) eqL := ⟨by kernel_rfl, by kernel_rfl, by kernel_rfl, trivial⟩
def nlL : List (Nat × Nat) := [(25, 0), (3, 0), (5, 0), (9, 0), (74, 0), (117, 0), (113, 0), (4, 0), (22, 3)]
theorem nlL_ok : okN (nilOf Try.prog) nlL := ⟨by kernel_rfl, by kernel_rfl, by kernel_rfl, by kernel_rfl, by kernel_rfl, by kernel_rfl, by kernel_rfl, by kernel_rfl, by kernel_rfl, trivial⟩
noncomputable def ty : TT := ⟨lookT tyL (tiOf Try.prog), lookT eqL (eqOf Try.prog), lookN nlL (nilOf Try.prog)⟩
theorem ty_ok : ty = ttOf Try.prog := by
  unfold ty ttOf
  rw [lookT_eq tyL_ok, lookT_eq eqL_ok, lookN_eq nlL_ok]
theorem rdy : R.d Ey = (0 : Int) := rfl
theorem rdi : R.d Ei = (0 : Int) := rfl
theorem rd5i : R.d E5i = ((0 : Int), (0 : Int), (0 : Int), (0 : Int), (0 : Int)) := rfl
theorem rd4i : R.d E4i = ((0 : Int), (0 : Int), (0 : Int), (0 : Int)) := rfl
theorem env : Env A R Try.prog ty fl := ⟨R_ok, ty_ok, fl_ok, by kernel_rfl⟩

abbrev tZ (a : Nat) : Operand := .tmp a
abbrev ciZ (k : Int) : Operand := .const (.int .i64 k)
abbrev mvZ (d a : Nat) : SO := ⟨some d, .move (.tmp a), none⟩
abbrev ldZ (d t a : Nat) : SO := ⟨some d, .load t (.tmp a), none⟩
abbrev faZ (d t a i : Nat) : SO := ⟨some d, .fieldAddr t (.tmp a) i, none⟩
abbrev iaZ (d t a b : Nat) : SO := ⟨some d, .indexAddr t (.tmp a) (.tmp b), none⟩
abbrev asZ (d a : Nat) : SO := ⟨some d, .assign (.tmp a), none⟩
abbrev exZ (d a i : Nat) : SO := ⟨some d, .extract (.tmp a) i, none⟩
abbrev boZ (d : Nat) (o : BinOp) (t a b r : Nat) : SO := ⟨some d, .binOp o t (.tmp a) (.tmp b) r, none⟩
abbrev bcZ (d : Nat) (o : BinOp) (t a : Nat) (k : Int) (r : Nat) : SO := ⟨some d, .binOp o t (.tmp a) (.const (.int .i64 k)) r, none⟩
abbrev stZ (t a b : Nat) : SO := ⟨none, .store t (.tmp a) (.tmp b), none⟩
abbrev gZ (g : Nat) (b : Bool) (s : SO) : SO := ⟨s.dst, s.op, some (g, b)⟩
abbrev rZ (d : Nat) (o : Op) : SO := ⟨some d, o, none⟩

end Go.Proofs.Ythkilkjngincpaa
namespace Go.Proofs.Ythkilkjngincpaa
open Go Go.Lite
set_option linter.unusedVariables false

/-- printworks/bitmap.Check -/
def bitmap_Check_r0 : List SO := [rZ 1 (.box 29 (tZ 0)), rZ 2 (.assign (ciZ 0))]
def bitmap_Check_r1 : List SO := [faZ 6 29 1 0, ldZ 7 3 6, bcZ 8 .lss 3 7 1 3, mvZ 9 8, gZ 9 false (faZ 10 29 1 0), gZ 9 false (ldZ 11 3 10), gZ 9 false (bcZ 12 .gtr 3 11 1024 3), rZ 13 (.pick (tZ 9) (.const (.bool true)) (tZ 12)), mvZ 14 13, gZ 14 false (faZ 15 29 1 1), gZ 14 false (ldZ 16 3 15), gZ 14 false (bcZ 17 .lss 3 16 1 3), rZ 18 (.pick (tZ 14) (.const (.bool true)) (tZ 17)), mvZ 19 18, gZ 19 false (faZ 20 29 1 1), gZ 19 false (ldZ 21 3 20), gZ 19 false (bcZ 22 .gtr 3 21 1024 3), rZ 23 (.pick (tZ 19) (.const (.bool true)) (tZ 22))]
def bitmap_Check_r2 : List SO := [rZ 2 (.assign (ciZ 3))]
def bitmap_Check_r3 : List SO := [faZ 24 29 1 0, ldZ 25 3 24, rZ 26 (.call ⟨(.value (.func (39 : Nat))), #[(tZ 25)], #[3]⟩), asZ 3 26]
def bitmap_Check_r4 : List SO := [faZ 27 29 1 2, ldZ 28 22 27, rZ 29 (.call ⟨(.builtin .len), #[(tZ 28)], #[22]⟩), mvZ 30 3, faZ 31 29 1 1, ldZ 32 3 31, boZ 33 .mul 3 30 32 3, boZ 34 .neq 3 29 33 3]
def bitmap_Check_r5 : List SO := [rZ 2 (.assign (ciZ 4))]
def bitmap_Check_r6 : List SO := [mvZ 35 3, rZ 36 (.binOp .mul 3 (ciZ 8) (tZ 35) 3), faZ 37 29 1 0, ldZ 38 3 37, boZ 39 .sub 3 36 38 3, rZ 40 (.binOp .shl 5 (.const (.int .u8 1)) (tZ 39) 3), rZ 41 (.binOp .sub 5 (tZ 40) (.const (.int .u8 1)) 5), asZ 4 41]
def bitmap_Check_r7 : List SO := [mvZ 42 4, rZ 43 (.binOp .neq 5 (tZ 42) (.const (.int .u8 0)) 5)]
def bitmap_Check_r8 : List SO := [faZ 44 29 1 1, ldZ 45 3 44, rZ 46 (.move (ciZ 0))]
def bitmap_Check_r9 : List SO := [boZ 47 .lss 3 46 45 3]
def bitmap_Check_r10 : List SO := [mvZ 48 46, asZ 5 48]
def bitmap_Check_r11 : List SO := [faZ 49 29 1 2, ldZ 50 22 49, mvZ 51 5, mvZ 52 3, boZ 53 .mul 3 51 52 3, mvZ 54 3, boZ 55 .add 3 53 54 3, bcZ 56 .sub 3 55 1 3, iaZ 57 22 50 56, ldZ 58 5 57, mvZ 59 4, boZ 60 .and 5 58 59 5, rZ 61 (.binOp .neq 5 (tZ 60) (.const (.int .u8 0)) 5)]
def bitmap_Check_r12 : List SO := [rZ 2 (.assign (ciZ 4))]
def bitmap_Check_r13 : List SO := [bcZ 62 .add 3 46 1 3, mvZ 46 62]
def bitmap_Check_r14 : List SO := [rZ 2 (.assign (ciZ 0))]
def bitmap_Check_c : SF := ⟨63, (.seq (.reg bitmap_Check_r0)
  (.seq (.seq (.reg bitmap_Check_r1)
  (.cond (tZ 23) (.seq (.reg bitmap_Check_r2)
  .ret) .skip))
  (.seq (.reg bitmap_Check_r3)
  (.seq (.seq (.reg bitmap_Check_r4)
  (.cond (tZ 34) (.seq (.reg bitmap_Check_r5)
  .ret) .skip))
  (.seq (.seq (.reg bitmap_Check_r6)
  (.seq (.reg bitmap_Check_r7)
  (.cond (tZ 43) (.seq (.reg bitmap_Check_r8)
  (.block 0 (.loop (.seq (.reg bitmap_Check_r9)
  (.seq (.cond (tZ 47) .skip (.exit 0))
  (.seq (.block 1 (.seq (.reg bitmap_Check_r10)
  (.seq (.reg bitmap_Check_r11)
  (.cond (tZ 61) (.seq (.reg bitmap_Check_r12)
  .ret) .skip))))
  (.reg bitmap_Check_r13))))))) .skip)))
  (.seq (.reg bitmap_Check_r14)
  .ret)))))), [.tmp 2]⟩
theorem bitmap_Check_s : slimF Try.prog 12 = some bitmap_Check_c := by kernel_rfl
abbrev bitmap_Check_f : Nat := 12
/-- printworks/bitmap.Turn -/
def bitmap_Turn_r0 : List SO := [rZ 2 (.box 29 (tZ 0)), rZ 4 (.alloc 29), rZ 5 (.assign (ciZ 0))]
def bitmap_Turn_r1 : List SO := [ldZ 7 29 2, rZ 8 (.call ⟨(.value (.func (12 : Nat))), #[(tZ 7)], #[29]⟩), asZ 6 8]
def bitmap_Turn_r2 : List SO := [mvZ 9 6, bcZ 10 .neq 25 9 0 25]
def bitmap_Turn_r3 : List SO := [rZ 11 (.build 29 #[]), mvZ 12 6, stZ 29 4 11, asZ 5 12]
def bitmap_Turn_r4 : List SO := [mvZ 13 1, bcZ 14 .lss 3 13 0 3, mvZ 15 14, gZ 15 false (mvZ 16 1), gZ 15 false (bcZ 17 .gtr 3 16 7 3), rZ 18 (.pick (tZ 15) (.const (.bool true)) (tZ 17))]
def bitmap_Turn_r5 : List SO := [rZ 19 (.build 29 #[]), stZ 29 4 19, rZ 5 (.assign (ciZ 3))]
def bitmap_Turn_r6 : List SO := [mvZ 20 1, rZ 21 (.call ⟨(.value (.func (49 : Nat))), #[(tZ 2), (tZ 20)], #[81, 3]⟩), stZ 29 4 21, rZ 5 (.assign (ciZ 0))]
def bitmap_Turn_c : SF := ⟨22, (.seq (.reg bitmap_Turn_r0)
  (.seq (.seq (.reg bitmap_Turn_r1)
  (.seq (.reg bitmap_Turn_r2)
  (.cond (tZ 10) (.seq (.reg bitmap_Turn_r3)
  .ret) .skip)))
  (.seq (.seq (.reg bitmap_Turn_r4)
  (.cond (tZ 18) (.seq (.reg bitmap_Turn_r5)
  .ret) .skip))
  (.seq (.reg bitmap_Turn_r6)
  .ret)))), [.cell 4 29, .tmp 5]⟩
theorem bitmap_Turn_s : slimF Try.prog 20 = some bitmap_Turn_c := by kernel_rfl
/-- printworks/bitmap.Get -/
def bitmap_Get_r0 : List SO := [rZ 3 (.box 29 (tZ 0)), rZ 6 (.assign (.const (.bool false))), rZ 7 (.assign (ciZ 0))]
def bitmap_Get_r1 : List SO := [ldZ 9 29 3, rZ 10 (.call ⟨(.value (.func (12 : Nat))), #[(tZ 9)], #[29]⟩), asZ 8 10]
def bitmap_Get_r2 : List SO := [mvZ 11 8, bcZ 12 .neq 25 11 0 25]
def bitmap_Get_r3 : List SO := [mvZ 13 8, rZ 6 (.assign (.const (.bool false))), asZ 7 13]
def bitmap_Get_r4 : List SO := [mvZ 14 1, bcZ 15 .lss 3 14 0 3, mvZ 16 15, gZ 16 false (mvZ 17 1), gZ 16 false (faZ 18 29 3 0), gZ 16 false (ldZ 19 3 18), gZ 16 false (boZ 20 .geq 3 17 19 3), rZ 21 (.pick (tZ 16) (.const (.bool true)) (tZ 20)), mvZ 22 21, gZ 22 false (mvZ 23 2), gZ 22 false (bcZ 24 .lss 3 23 0 3), rZ 25 (.pick (tZ 22) (.const (.bool true)) (tZ 24)), mvZ 26 25, gZ 26 false (mvZ 27 2), gZ 26 false (faZ 28 29 3 1), gZ 26 false (ldZ 29 3 28), gZ 26 false (boZ 30 .geq 3 27 29 3), rZ 31 (.pick (tZ 26) (.const (.bool true)) (tZ 30))]
def bitmap_Get_r5 : List SO := [rZ 6 (.assign (.const (.bool false))), rZ 7 (.assign (ciZ 3))]
def bitmap_Get_r6 : List SO := [mvZ 32 1, mvZ 33 2, rZ 34 (.call ⟨(.value (.func (51 : Nat))), #[(tZ 3), (tZ 32), (tZ 33)], #[81, 3, 3]⟩), asZ 6 34, rZ 7 (.assign (ciZ 0))]
def bitmap_Get_c : SF := ⟨35, (.seq (.reg bitmap_Get_r0)
  (.seq (.seq (.reg bitmap_Get_r1)
  (.seq (.reg bitmap_Get_r2)
  (.cond (tZ 12) (.seq (.reg bitmap_Get_r3)
  .ret) .skip)))
  (.seq (.seq (.reg bitmap_Get_r4)
  (.cond (tZ 31) (.seq (.reg bitmap_Get_r5)
  .ret) .skip))
  (.seq (.reg bitmap_Get_r6)
  .ret)))), [.tmp 6, .tmp 7]⟩
theorem bitmap_Get_s : slimF Try.prog 25 = some bitmap_Get_c := by kernel_rfl
/-- printworks/bitmap.Set -/
def bitmap_Set_r0 : List SO := [rZ 4 (.box 29 (tZ 0)), rZ 8 (.alloc 29), rZ 9 (.assign (ciZ 0))]
def bitmap_Set_r1 : List SO := [ldZ 11 29 4, rZ 12 (.call ⟨(.value (.func (12 : Nat))), #[(tZ 11)], #[29]⟩), asZ 10 12]
def bitmap_Set_r2 : List SO := [mvZ 13 10, bcZ 14 .neq 25 13 0 25]
def bitmap_Set_r3 : List SO := [rZ 15 (.build 29 #[]), mvZ 16 10, stZ 29 8 15, asZ 9 16]
def bitmap_Set_r4 : List SO := [mvZ 17 1, bcZ 18 .lss 3 17 0 3, mvZ 19 18, gZ 19 false (mvZ 20 1), gZ 19 false (faZ 21 29 4 0), gZ 19 false (ldZ 22 3 21), gZ 19 false (boZ 23 .geq 3 20 22 3), rZ 24 (.pick (tZ 19) (.const (.bool true)) (tZ 23)), mvZ 25 24, gZ 25 false (mvZ 26 2), gZ 25 false (bcZ 27 .lss 3 26 0 3), rZ 28 (.pick (tZ 25) (.const (.bool true)) (tZ 27)), mvZ 29 28, gZ 29 false (mvZ 30 2), gZ 29 false (faZ 31 29 4 1), gZ 29 false (ldZ 32 3 31), gZ 29 false (boZ 33 .geq 3 30 32 3), rZ 34 (.pick (tZ 29) (.const (.bool true)) (tZ 33))]
def bitmap_Set_r5 : List SO := [rZ 35 (.build 29 #[]), stZ 29 8 35, rZ 9 (.assign (ciZ 3))]
def bitmap_Set_r6 : List SO := [faZ 36 29 4 2, ldZ 37 22 36, rZ 38 (.call ⟨(.builtin .append), #[(.const (.slice none 0 0)), (tZ 37)], #[22, 22]⟩), faZ 39 29 4 2, stZ 22 39 38]
def bitmap_Set_r7 : List SO := [mvZ 40 3]
def bitmap_Set_r8 : List SO := [mvZ 41 1, mvZ 42 2, rZ 43 (.call ⟨(.value (.func (38 : Nat))), #[(tZ 4), (tZ 41), (tZ 42)], #[81, 3, 3]⟩)]
def bitmap_Set_r9 : List SO := [faZ 44 29 4 2, ldZ 45 22 44, mvZ 46 2, faZ 47 29 4 0, ldZ 48 3 47, rZ 49 (.call ⟨(.value (.func (39 : Nat))), #[(tZ 48)], #[3]⟩), boZ 50 .mul 3 46 49 3, mvZ 51 1, bcZ 52 .quo 3 51 8 3, boZ 53 .add 3 50 52 3, iaZ 54 22 45 53, ldZ 55 5 54, mvZ 56 1, bcZ 57 .rem 3 56 8 3, rZ 58 (.binOp .shr 5 (.const (.int .u8 128)) (tZ 57) 3), boZ 59 .andNot 5 55 58 5, iaZ 60 22 45 53, stZ 5 60 59]
def bitmap_Set_a9 : List (List Nat) := [[], [0], [], [], [3], [4], [2, 5], [], [7], [6, 8], [1, 9], [10], [], [12], [13], [11, 14], [1, 9, 0, 1, 2, 3, 4, 5, 6, 7, 8, 9, 10, 11, 12, 13, 14, 15], [16, 15, 5, 0, 1, 2, 3, 4, 5, 6, 7, 8, 9, 10, 11, 12, 13, 14, 15]]
def bitmap_Set_r10 : List SO := [ldZ 61 29 4, stZ 29 8 61, rZ 9 (.assign (ciZ 0))]
def bitmap_Set_c : SF := ⟨62, (.seq (.reg bitmap_Set_r0)
  (.seq (.seq (.reg bitmap_Set_r1)
  (.seq (.reg bitmap_Set_r2)
  (.cond (tZ 14) (.seq (.reg bitmap_Set_r3)
  .ret) .skip)))
  (.seq (.seq (.reg bitmap_Set_r4)
  (.cond (tZ 34) (.seq (.reg bitmap_Set_r5)
  .ret) .skip))
  (.seq (.reg bitmap_Set_r6)
  (.seq (.seq (.reg bitmap_Set_r7)
  (.cond (tZ 40) (.reg bitmap_Set_r8) (.regd bitmap_Set_r9 bitmap_Set_a9)))
  (.seq (.reg bitmap_Set_r10)
  .ret)))))), [.cell 8 29, .tmp 9]⟩
theorem bitmap_Set_s : slimF Try.prog 26 = some bitmap_Set_c := by kernel_rfl
/-- printworks/bitmap.FromPlate -/
def bitmap_FromPlate_r0 : List SO := [rZ 2 (.box 68 (tZ 0)), rZ 3 (.box 3 (tZ 1)), rZ 4 (.alloc 29), rZ 5 (.assign (ciZ 0))]
def bitmap_FromPlate_r1 : List SO := [ldZ 7 68 2, rZ 8 (.call ⟨(.value (.func (64 : Nat))), #[(tZ 7)], #[68]⟩), asZ 6 8]
def bitmap_FromPlate_r2 : List SO := [mvZ 9 6, bcZ 10 .neq 25 9 0 25]
def bitmap_FromPlate_r3 : List SO := [rZ 11 (.build 29 #[]), mvZ 12 6, stZ 29 4 11, asZ 5 12]
def bitmap_FromPlate_r4 : List SO := [ldZ 13 3 3, bcZ 14 .lss 3 13 1 3, mvZ 15 14, gZ 15 false (ldZ 16 3 3), gZ 15 false (bcZ 17 .gtr 3 16 255 3), rZ 18 (.pick (tZ 15) (.const (.bool true)) (tZ 17))]
def bitmap_FromPlate_r5 : List SO := [rZ 19 (.build 29 #[]), stZ 29 4 19, rZ 5 (.assign (ciZ 3))]
def bitmap_FromPlate_r6 : List SO := [faZ 20 68 2 0, ldZ 21 3 20, faZ 22 68 2 1, ldZ 23 3 22, rZ 24 (.makeFunc (.func (66 : Nat)) #[] #[(tZ 2), (tZ 3)]), rZ 25 (.call ⟨(.value (.func (65 : Nat))), #[(tZ 21), (tZ 23), (tZ 24)], #[3, 3, 121]⟩), stZ 29 4 25, rZ 5 (.assign (ciZ 0))]
def bitmap_FromPlate_c : SF := ⟨26, (.seq (.reg bitmap_FromPlate_r0)
  (.seq (.seq (.reg bitmap_FromPlate_r1)
  (.seq (.reg bitmap_FromPlate_r2)
  (.cond (tZ 10) (.seq (.reg bitmap_FromPlate_r3)
  .ret) .skip)))
  (.seq (.seq (.reg bitmap_FromPlate_r4)
  (.cond (tZ 18) (.seq (.reg bitmap_FromPlate_r5)
  .ret) .skip))
  (.seq (.reg bitmap_FromPlate_r6)
  .ret)))), [.cell 4 29, .tmp 5]⟩
theorem bitmap_FromPlate_s : slimF Try.prog 32 = some bitmap_FromPlate_c := by kernel_rfl
abbrev bitmap_FromPlate_f : Nat := 32
/-- printworks/bitmap.Blank -/
def bitmap_Blank_r0 : List SO := [rZ 4 (.alloc 29)]
def bitmap_Blank_r1 : List SO := [mvZ 5 0, mvZ 6 1, mvZ 7 0, rZ 8 (.call ⟨(.value (.func (39 : Nat))), #[(tZ 7)], #[3]⟩), mvZ 9 1, boZ 10 .mul 3 8 9 3, rZ 11 (.makeSlice 22 (tZ 10) (tZ 10)), rZ 12 (.build 29 #[(0, (tZ 5)), (1, (tZ 6)), (2, (tZ 11))]), stZ 29 4 12]
def bitmap_Blank_c : SF := ⟨13, (.seq (.reg bitmap_Blank_r0)
  (.seq (.reg bitmap_Blank_r1)
  .ret)), [.cell 4 29]⟩
theorem bitmap_Blank_s : slimF Try.prog 36 = some bitmap_Blank_c := by kernel_rfl
abbrev bitmap_Blank_f : Nat := 36
/-- printworks/bitmap.Mark -/
def bitmap_Mark_r0 : List SO := [mvZ 6 0, rZ 7 (.nilCheck (tZ 6)), faZ 8 29 7 2, ldZ 9 22 8, mvZ 10 2, mvZ 11 0, rZ 12 (.nilCheck (tZ 11)), faZ 13 29 12 0, ldZ 14 3 13, rZ 15 (.call ⟨(.value (.func (39 : Nat))), #[(tZ 14)], #[3]⟩), boZ 16 .mul 3 10 15 3, mvZ 17 1, bcZ 18 .quo 3 17 8 3, boZ 19 .add 3 16 18 3, iaZ 20 22 9 19, ldZ 21 5 20, mvZ 22 1, bcZ 23 .rem 3 22 8 3, rZ 24 (.binOp .shr 5 (.const (.int .u8 128)) (tZ 23) 3), boZ 25 .or 5 21 24 5, iaZ 26 22 9 19, stZ 5 26 25]
def bitmap_Mark_a0 : List (List Nat) := [[], [0], [1], [2], [], [], [5], [6], [7], [8], [4, 9], [], [11], [10, 12], [3, 13], [14], [], [16], [17], [15, 18], [3, 13, 0, 1, 2, 3, 4, 5, 6, 7, 8, 9, 10, 11, 12, 13, 14, 15, 16, 17, 18, 19], [20, 19, 9, 0, 1, 2, 3, 4, 5, 6, 7, 8, 9, 10, 11, 12, 13, 14, 15, 16, 17, 18, 19]]
def bitmap_Mark_c : SF := ⟨27, (.regd bitmap_Mark_r0 bitmap_Mark_a0), []⟩
theorem bitmap_Mark_s : slimF Try.prog 38 = some bitmap_Mark_c := by kernel_rfl
abbrev bitmap_Mark_f : Nat := 38
/-- printworks/bitmap.stride -/
def bitmap_stride_r0 : List SO := [rZ 2 (.assign (ciZ 0))]
def bitmap_stride_r1 : List SO := [mvZ 3 0, bcZ 4 .add 3 3 7 3, bcZ 5 .quo 3 4 8 3, asZ 2 5]
def bitmap_stride_c : SF := ⟨6, (.seq (.reg bitmap_stride_r0)
  (.seq (.reg bitmap_stride_r1)
  .ret)), [.tmp 2]⟩
theorem bitmap_stride_s : slimF Try.prog 39 = some bitmap_stride_c := by kernel_rfl
abbrev bitmap_stride_f : Nat := 39
/-- printworks/bitmap.Turned -/
def bitmap_Turned_r0 : List SO := [rZ 2 (.box 81 (tZ 0)), rZ 4 (.alloc 29)]
def bitmap_Turned_r1 : List SO := [ldZ 7 81 2, rZ 8 (.nilCheck (tZ 7)), ldZ 9 29 8, rZ 5 (.alloc 29), stZ 29 5 9]
def bitmap_Turned_r2 : List SO := [ldZ 10 81 2, rZ 11 (.nilCheck (tZ 10)), faZ 12 29 11 2, ldZ 13 22 12, rZ 14 (.call ⟨(.builtin .append), #[(.const (.slice none 0 0)), (tZ 13)], #[22, 22]⟩), faZ 15 29 5 2, stZ 22 15 14]
def bitmap_Turned_r3 : List SO := [mvZ 16 1, bcZ 17 .geq 3 16 4 3]
def bitmap_Turned_r4 : List SO := [ldZ 18 81 2, rZ 19 (.nilCheck (tZ 18)), faZ 20 29 19 0, ldZ 21 3 20, ldZ 22 81 2, rZ 23 (.nilCheck (tZ 22)), faZ 24 29 23 1, ldZ 25 3 24, rZ 26 (.makeFunc (.func (69 : Nat)) #[] #[(tZ 2)]), rZ 27 (.call ⟨(.value (.func (65 : Nat))), #[(tZ 21), (tZ 25), (tZ 26)], #[3, 3, 121]⟩), stZ 29 5 27]
def bitmap_Turned_a4 : List (List Nat) := [[], [0], [1], [2], [], [4], [5], [6], [], [3, 7, 8], [9, 9, 0, 1, 2, 3, 4, 5, 6, 7, 8, 9]]
def bitmap_Turned_r5 : List SO := [mvZ 28 1, bcZ 29 .rem 3 28 4 3, rZ 30 (.move (ciZ 0))]
def bitmap_Turned_r6 : List SO := [boZ 31 .lss 3 30 29 3]
def bitmap_Turned_r7 : List SO := [ldZ 32 29 5, rZ 6 (.alloc 29), stZ 29 6 32]
def bitmap_Turned_r8 : List SO := [faZ 33 29 6 1, ldZ 34 3 33, faZ 35 29 6 0, ldZ 36 3 35, rZ 37 (.makeFunc (.func (70 : Nat)) #[] #[(tZ 6)]), rZ 38 (.call ⟨(.value (.func (65 : Nat))), #[(tZ 34), (tZ 36), (tZ 37)], #[3, 3, 121]⟩), stZ 29 5 38]
def bitmap_Turned_r9 : List SO := [bcZ 39 .add 3 30 1 3, mvZ 30 39]
def bitmap_Turned_r10 : List SO := [ldZ 40 29 5, stZ 29 4 40]
def bitmap_Turned_c : SF := ⟨41, (.seq (.reg bitmap_Turned_r0)
  (.seq (.reg bitmap_Turned_r1)
  (.seq (.reg bitmap_Turned_r2)
  (.seq (.seq (.reg bitmap_Turned_r3)
  (.cond (tZ 17) (.regd bitmap_Turned_r4 bitmap_Turned_a4) .skip))
  (.seq (.seq (.reg bitmap_Turned_r5)
  (.block 0 (.loop (.seq (.reg bitmap_Turned_r6)
  (.seq (.cond (tZ 31) .skip (.exit 0))
  (.seq (.block 1 (.seq (.reg bitmap_Turned_r7)
  (.reg bitmap_Turned_r8)))
  (.reg bitmap_Turned_r9)))))))
  (.seq (.reg bitmap_Turned_r10)
  .ret)))))), [.cell 4 29]⟩
theorem bitmap_Turned_s : slimF Try.prog 49 = some bitmap_Turned_c := by kernel_rfl
/-- printworks/bitmap.Is -/
def bitmap_Is_r0 : List SO := [rZ 6 (.assign (.const (.bool false)))]
def bitmap_Is_r1 : List SO := [mvZ 7 1, bcZ 8 .geq 3 7 0 3, mvZ 9 8, gZ 9 true (mvZ 10 1), gZ 9 true (mvZ 11 0), gZ 9 true (rZ 12 (.nilCheck (tZ 11))), gZ 9 true (faZ 13 29 12 0), gZ 9 true (ldZ 14 3 13), gZ 9 true (boZ 15 .lss 3 10 14 3), rZ 16 (.pick (tZ 9) (tZ 15) (.const (.bool false))), mvZ 17 16, gZ 17 true (mvZ 18 2), gZ 17 true (bcZ 19 .geq 3 18 0 3), rZ 20 (.pick (tZ 17) (tZ 19) (.const (.bool false))), mvZ 21 20, gZ 21 true (mvZ 22 2), gZ 21 true (mvZ 23 0), gZ 21 true (rZ 24 (.nilCheck (tZ 23))), gZ 21 true (faZ 25 29 24 1), gZ 21 true (ldZ 26 3 25), gZ 21 true (boZ 27 .lss 3 22 26 3), rZ 28 (.pick (tZ 21) (tZ 27) (.const (.bool false))), mvZ 29 28, gZ 29 true (mvZ 30 0), gZ 29 true (rZ 31 (.nilCheck (tZ 30))), gZ 29 true (faZ 32 29 31 2), gZ 29 true (ldZ 33 22 32), gZ 29 true (mvZ 34 2), gZ 29 true (mvZ 35 0), gZ 29 true (rZ 36 (.nilCheck (tZ 35))), gZ 29 true (faZ 37 29 36 0), gZ 29 true (ldZ 38 3 37), gZ 29 true (rZ 39 (.call ⟨(.value (.func (39 : Nat))), #[(tZ 38)], #[3]⟩)), gZ 29 true (boZ 40 .mul 3 34 39 3), gZ 29 true (mvZ 41 1), gZ 29 true (bcZ 42 .quo 3 41 8 3), gZ 29 true (boZ 43 .add 3 40 42 3), gZ 29 true (iaZ 44 22 33 43), gZ 29 true (ldZ 45 5 44), gZ 29 true (mvZ 46 1), gZ 29 true (bcZ 47 .rem 3 46 8 3), gZ 29 true (rZ 48 (.binOp .shr 5 (.const (.int .u8 128)) (tZ 47) 3)), gZ 29 true (boZ 49 .and 5 45 48 5), gZ 29 true (rZ 50 (.binOp .neq 5 (tZ 49) (.const (.int .u8 0)) 5)), rZ 51 (.pick (tZ 29) (tZ 50) (.const (.bool false))), asZ 6 51]
def bitmap_Is_a1 : List (List Nat) := [[], [0], [1], [2], [2], [4, 2], [5, 2], [6, 2], [3, 7, 2], [2, 8], [9, 2], [10], [11, 10], [10, 12], [13, 10], [14], [14], [16, 14], [17, 14], [18, 14], [15, 19, 14], [14, 20], [21, 14], [22], [23, 22], [24, 22], [25, 22], [22], [22], [28, 22], [29, 22], [30, 22], [31, 22, 22], [27, 32, 22], [22], [34, 22], [33, 35, 22], [26, 36, 22], [37, 22], [22], [39, 22], [40, 22], [38, 41, 22], [42, 22], [22, 43], [44, 32, 0, 1, 2, 3, 4, 5, 6, 7, 8, 9, 10, 11, 12, 13, 14, 15, 16, 17, 18, 19, 20, 21, 22, 23, 24, 25, 26, 27, 28, 29, 30, 31, 32, 33, 34, 35, 36, 37, 38, 39, 40, 41, 42, 43, 44]]
def bitmap_Is_c : SF := ⟨52, (.seq (.reg bitmap_Is_r0)
  (.seq (.regd bitmap_Is_r1 bitmap_Is_a1)
  .ret)), [.tmp 6]⟩
theorem bitmap_Is_s : slimF Try.prog 51 = some bitmap_Is_c := by kernel_rfl
abbrev bitmap_Is_f : Nat := 51
/-- printworks/bitmap.FromPlate$1 -/
def bitmap_FromPlate_1_r0 : List SO := [rZ 6 (.assign (.const (.bool false)))]
def bitmap_FromPlate_1_r1 : List SO := [faZ 7 68 2 2, ldZ 8 22 7, mvZ 9 1, faZ 10 68 2 0, ldZ 11 3 10, boZ 12 .mul 3 9 11 3, mvZ 13 0, boZ 14 .add 3 12 13 3, iaZ 15 22 8 14, ldZ 16 5 15, rZ 17 (.convert 5 3 (tZ 16)), ldZ 18 3 3, boZ 19 .geq 3 17 18 3, asZ 6 19]
def bitmap_FromPlate_1_a1 : List (List Nat) := [[], [0], [], [], [3], [2, 4], [], [5, 6], [1, 7], [8], [9], [], [10, 11], [12, 0, 1, 2, 3, 4, 5, 6, 7, 8, 9, 10, 11, 12]]
def bitmap_FromPlate_1_c : SF := ⟨20, (.seq (.reg bitmap_FromPlate_1_r0)
  (.seq (.regd bitmap_FromPlate_1_r1 bitmap_FromPlate_1_a1)
  .ret)), [.tmp 6]⟩
theorem bitmap_FromPlate_1_s : slimF Try.prog 66 = some bitmap_FromPlate_1_c := by kernel_rfl
abbrev bitmap_FromPlate_1_f : Nat := 66
/-- printworks/bitmap.from -/
def bitmap_from_r0 : List SO := [rZ 6 (.alloc 29)]
def bitmap_from_r1 : List SO := [mvZ 10 0, mvZ 11 1, rZ 12 (.call ⟨(.value (.func (36 : Nat))), #[(tZ 10), (tZ 11)], #[3, 3]⟩), rZ 7 (.alloc 29), stZ 29 7 12]
def bitmap_from_r2 : List SO := [mvZ 13 1, rZ 14 (.move (ciZ 0))]
def bitmap_from_r3 : List SO := [boZ 15 .lss 3 14 13 3]
def bitmap_from_r4 : List SO := [mvZ 16 14, asZ 8 16]
def bitmap_from_r5 : List SO := [mvZ 17 0, rZ 18 (.move (ciZ 0))]
def bitmap_from_r6 : List SO := [boZ 19 .lss 3 18 17 3]
def bitmap_from_r7 : List SO := [mvZ 20 18, asZ 9 20]
def bitmap_from_r8 : List SO := [mvZ 21 2, mvZ 22 9, mvZ 23 8, rZ 24 (.call ⟨(.value (tZ 21)), #[(tZ 22), (tZ 23)], #[3, 3]⟩)]
def bitmap_from_r9 : List SO := [mvZ 25 9, mvZ 26 8, rZ 27 (.call ⟨(.value (.func (38 : Nat))), #[(tZ 7), (tZ 25), (tZ 26)], #[81, 3, 3]⟩)]
def bitmap_from_r10 : List SO := [bcZ 28 .add 3 18 1 3, mvZ 18 28]
def bitmap_from_r11 : List SO := [bcZ 29 .add 3 14 1 3, mvZ 14 29]
def bitmap_from_r12 : List SO := [ldZ 30 29 7, stZ 29 6 30]
def bitmap_from_c : SF := ⟨31, (.seq (.reg bitmap_from_r0)
  (.seq (.reg bitmap_from_r1)
  (.seq (.seq (.reg bitmap_from_r2)
  (.block 0 (.loop (.seq (.reg bitmap_from_r3)
  (.seq (.cond (tZ 15) .skip (.exit 0))
  (.seq (.block 1 (.seq (.reg bitmap_from_r4)
  (.seq (.reg bitmap_from_r5)
  (.block 2 (.loop (.seq (.reg bitmap_from_r6)
  (.seq (.cond (tZ 19) .skip (.exit 2))
  (.seq (.block 3 (.seq (.reg bitmap_from_r7)
  (.seq (.reg bitmap_from_r8)
  (.cond (tZ 24) (.reg bitmap_from_r9) .skip))))
  (.reg bitmap_from_r10)))))))))
  (.reg bitmap_from_r11)))))))
  (.seq (.reg bitmap_from_r12)
  .ret)))), [.cell 6 29]⟩
theorem bitmap_from_s : slimF Try.prog 65 = some bitmap_from_c := by kernel_rfl
abbrev bitmap_from_f : Nat := 65
/-- printworks/bitmap.Turned$1 -/
def bitmap_Turned_1_r0 : List SO := [rZ 5 (.assign (.const (.bool false)))]
def bitmap_Turned_1_r1 : List SO := [ldZ 6 81 2, ldZ 7 81 2, rZ 8 (.nilCheck (tZ 7)), faZ 9 29 8 0, ldZ 10 3 9, bcZ 11 .sub 3 10 1 3, mvZ 12 0, boZ 13 .sub 3 11 12 3, mvZ 14 1, rZ 15 (.call ⟨(.value (.func (51 : Nat))), #[(tZ 6), (tZ 13), (tZ 14)], #[81, 3, 3]⟩), asZ 5 15]
def bitmap_Turned_1_a1 : List (List Nat) := [[], [], [1], [2], [3], [4], [], [5, 6], [], [0, 7, 8], [9, 9, 0, 1, 2, 3, 4, 5, 6, 7, 8, 9]]
def bitmap_Turned_1_c : SF := ⟨16, (.seq (.reg bitmap_Turned_1_r0)
  (.seq (.regd bitmap_Turned_1_r1 bitmap_Turned_1_a1)
  .ret)), [.tmp 5]⟩
theorem bitmap_Turned_1_s : slimF Try.prog 69 = some bitmap_Turned_1_c := by kernel_rfl
/-- printworks/bitmap.Turned$2 -/
def bitmap_Turned_2_r0 : List SO := [rZ 5 (.assign (.const (.bool false)))]
def bitmap_Turned_2_r1 : List SO := [mvZ 6 1, faZ 7 29 2 1, ldZ 8 3 7, bcZ 9 .sub 3 8 1 3, mvZ 10 0, boZ 11 .sub 3 9 10 3, rZ 12 (.call ⟨(.value (.func (51 : Nat))), #[(tZ 2), (tZ 6), (tZ 11)], #[81, 3, 3]⟩), asZ 5 12]
def bitmap_Turned_2_c : SF := ⟨13, (.seq (.reg bitmap_Turned_2_r0)
  (.seq (.reg bitmap_Turned_2_r1)
  .ret)), [.tmp 5]⟩
theorem bitmap_Turned_2_s : slimF Try.prog 70 = some bitmap_Turned_2_c := by kernel_rfl
/-- printworks/bitmap.Row -/
def bitmap_Row_r0 : List SO := [rZ 2 (.box 81 (tZ 0)), rZ 3 (.box 3 (tZ 1)), rZ 4 (.assign (.const .nilFunc))]
def bitmap_Row_r1 : List SO := [rZ 5 (.makeFunc (.func (78 : Nat)) #[] #[(tZ 2), (tZ 3)]), asZ 4 5]
def bitmap_Row_c : SF := ⟨6, (.seq (.reg bitmap_Row_r0)
  (.seq (.reg bitmap_Row_r1)
  .ret)), [.tmp 4]⟩
theorem bitmap_Row_s : slimF Try.prog 76 = some bitmap_Row_c := by kernel_rfl
/-- printworks/bitmap.Row$1 -/
def bitmap_Row_1_r0 : List SO := [rZ 4 (.assign (ciZ 0))]
def bitmap_Row_1_r1 : List SO := [mvZ 6 4, ldZ 7 81 1, rZ 8 (.nilCheck (tZ 7)), faZ 9 29 8 0, ldZ 10 3 9, boZ 11 .lss 3 6 10 3]
def bitmap_Row_1_r2 : List SO := [ldZ 12 81 1, mvZ 13 4, ldZ 14 3 2, rZ 15 (.call ⟨(.value (.func (51 : Nat))), #[(tZ 12), (tZ 13), (tZ 14)], #[81, 3, 3]⟩), rZ 16 (.unOp .not 4 (tZ 15))]
def bitmap_Row_1_r3 : List SO := [mvZ 17 4, bcZ 18 .add 3 17 1 3, asZ 4 18]
def bitmap_Row_1_r4 : List SO := [mvZ 19 4, asZ 5 19]
def bitmap_Row_1_r5 : List SO := [mvZ 20 4, ldZ 21 81 1, rZ 22 (.nilCheck (tZ 21)), faZ 23 29 22 0, ldZ 24 3 23, boZ 25 .lss 3 20 24 3, mvZ 26 25, gZ 26 true (ldZ 27 81 1), gZ 26 true (mvZ 28 4), gZ 26 true (ldZ 29 3 2), gZ 26 true (rZ 30 (.call ⟨(.value (.func (51 : Nat))), #[(tZ 27), (tZ 28), (tZ 29)], #[81, 3, 3]⟩)), rZ 31 (.pick (tZ 26) (tZ 30) (.const (.bool false)))]
def bitmap_Row_1_r6 : List SO := [mvZ 32 4, bcZ 33 .add 3 32 1 3, asZ 4 33]
def bitmap_Row_1_r7 : List SO := [mvZ 34 0, ldZ 35 3 2, mvZ 36 5, mvZ 37 4, rZ 38 (.build 134 #[(0, (tZ 35)), (1, (tZ 36)), (2, (tZ 37))]), rZ 39 (.call ⟨(.value (tZ 34)), #[(tZ 38)], #[134]⟩), rZ 40 (.unOp .not 4 (tZ 39))]
def bitmap_Row_1_c : SF := ⟨41, (.seq (.reg bitmap_Row_1_r0)
  (.block 0 (.loop (.seq (.seq (.reg bitmap_Row_1_r1)
  (.cond (tZ 11) .skip (.exit 0)))
  (.block 1 (.seq (.seq (.reg bitmap_Row_1_r2)
  (.cond (tZ 16) (.seq (.reg bitmap_Row_1_r3)
  (.exit 1)) .skip))
  (.seq (.reg bitmap_Row_1_r4)
  (.seq (.block 2 (.loop (.seq (.seq (.reg bitmap_Row_1_r5)
  (.cond (tZ 31) .skip (.exit 2)))
  (.block 3 (.reg bitmap_Row_1_r6)))))
  (.seq (.reg bitmap_Row_1_r7)
  (.cond (tZ 40) .ret .skip)))))))))), []⟩
theorem bitmap_Row_1_s : slimF Try.prog 78 = some bitmap_Row_1_c := by kernel_rfl
def tbl_bitmap : List (Nat × SF) := [(12, bitmap_Check_c), (20, bitmap_Turn_c), (25, bitmap_Get_c), (26, bitmap_Set_c), (32, bitmap_FromPlate_c), (36, bitmap_Blank_c), (38, bitmap_Mark_c), (39, bitmap_stride_c), (49, bitmap_Turned_c), (51, bitmap_Is_c), (66, bitmap_FromPlate_1_c), (65, bitmap_from_c), (69, bitmap_Turned_1_c), (70, bitmap_Turned_2_c), (76, bitmap_Row_c), (78, bitmap_Row_1_c)]
theorem tbl_bitmap_ok : okT Try.prog tbl_bitmap := ⟨bitmap_Check_s, bitmap_Turn_s, bitmap_Get_s, bitmap_Set_s, bitmap_FromPlate_s, bitmap_Blank_s, bitmap_Mark_s, bitmap_stride_s, bitmap_Turned_s, bitmap_Is_s, bitmap_FromPlate_1_s, bitmap_from_s, bitmap_Turned_1_s, bitmap_Turned_2_s, bitmap_Row_s, bitmap_Row_1_s, trivial⟩

end Go.Proofs.Ythkilkjngincpaa
namespace Go.Proofs.Ythkilkjngincpaa
open Go Go.Lite
set_option linter.unusedVariables false

/-- printworks/strip.Layout -/
def strip_Layout_r0 : List SO := [rZ 6 (.assign (.const (.slice none 0 0))), rZ 7 (.assign (ciZ 0))]
def strip_Layout_r1 : List SO := [mvZ 14 0, bcZ 15 .lss 3 14 1 3, mvZ 16 15, gZ 16 false (mvZ 17 0), gZ 16 false (bcZ 18 .gtr 3 17 8 3), rZ 19 (.pick (tZ 16) (.const (.bool true)) (tZ 18)), mvZ 20 19, gZ 20 false (mvZ 21 1), gZ 20 false (bcZ 22 .lss 3 21 1 3), rZ 23 (.pick (tZ 20) (.const (.bool true)) (tZ 22)), mvZ 24 23, gZ 24 false (mvZ 25 1), gZ 24 false (bcZ 26 .gtr 3 25 16 3), rZ 27 (.pick (tZ 24) (.const (.bool true)) (tZ 26)), mvZ 28 27, gZ 28 false (mvZ 29 2), gZ 28 false (bcZ 30 .lss 3 29 1 3), rZ 31 (.pick (tZ 28) (.const (.bool true)) (tZ 30)), mvZ 32 31, gZ 32 false (mvZ 33 2), gZ 32 false (bcZ 34 .gtr 3 33 1024 3), rZ 35 (.pick (tZ 32) (.const (.bool true)) (tZ 34))]
def strip_Layout_r2 : List SO := [rZ 6 (.assign (.const (.slice none 0 0))), rZ 7 (.assign (ciZ 3))]
def strip_Layout_r3 : List SO := [rZ 8 (.assign (.const (.slice none 0 0)))]
def strip_Layout_r4 : List SO := [mvZ 36 1, rZ 37 (.move (ciZ 0))]
def strip_Layout_r5 : List SO := [boZ 38 .lss 3 37 36 3]
def strip_Layout_r6 : List SO := [mvZ 39 37, asZ 9 39]
def strip_Layout_r7 : List SO := [mvZ 40 9, mvZ 41 2, boZ 42 .mul 3 40 41 3, mvZ 43 1, boZ 44 .quo 3 42 43 3, mvZ 45 9, bcZ 46 .add 3 45 1 3, mvZ 47 2, boZ 48 .mul 3 46 47 3, mvZ 49 1, boZ 50 .quo 3 48 49 3, asZ 10 44, asZ 11 50]
def strip_Layout_a7 : List (List Nat) := [[], [], [0, 1], [], [2, 3], [], [5], [], [6, 7], [], [8, 9], [4, 0, 1, 2, 3, 4], [10, 11, 0, 1, 2, 3, 4, 5, 6, 7, 8, 9, 10, 11]]
def strip_Layout_r8 : List SO := [mvZ 51 11, mvZ 52 10, boZ 53 .sub 3 51 52 3, mvZ 54 0, rZ 55 (.binOp .mul 3 (ciZ 2) (tZ 54) 3), boZ 56 .quo 3 53 55 3, asZ 12 56]
def strip_Layout_r9 : List SO := [mvZ 57 12, bcZ 58 .lss 3 57 2 3]
def strip_Layout_r10 : List SO := [rZ 6 (.assign (.const (.slice none 0 0))), rZ 7 (.assign (ciZ 19))]
def strip_Layout_r11 : List SO := [mvZ 59 0, rZ 60 (.binOp .mul 3 (ciZ 2) (tZ 59) 3), rZ 61 (.move (ciZ 0))]
def strip_Layout_r12 : List SO := [boZ 62 .lss 3 61 60 3]
def strip_Layout_r13 : List SO := [mvZ 63 61, asZ 13 63]
def strip_Layout_r14 : List SO := [mvZ 64 8, mvZ 65 10, mvZ 66 13, mvZ 67 12, boZ 68 .mul 3 66 67 3, boZ 69 .add 3 65 68 3, mvZ 70 12, mvZ 71 13, bcZ 72 .rem 3 71 2 3, mvZ 73 13, bcZ 74 .quo 3 73 2 3, mvZ 75 9, rZ 76 (.build 117 #[(0, (tZ 69)), (1, (tZ 70)), (2, (tZ 72)), (3, (tZ 74)), (4, (tZ 75))]), rZ 77 (.buildSlice 61 1 #[(0, (tZ 76))]), rZ 78 (.call ⟨(.builtin .append), #[(tZ 64), (tZ 77)], #[61, 61]⟩), asZ 8 78]
def strip_Layout_r15 : List SO := [bcZ 79 .add 3 61 1 3, mvZ 61 79]
def strip_Layout_r16 : List SO := [bcZ 80 .add 3 37 1 3, mvZ 37 80]
def strip_Layout_r17 : List SO := [mvZ 81 8, asZ 6 81, rZ 7 (.assign (ciZ 0))]
def strip_Layout_c : SF := ⟨82, (.seq (.reg strip_Layout_r0)
  (.seq (.seq (.reg strip_Layout_r1)
  (.cond (tZ 35) (.seq (.reg strip_Layout_r2)
  .ret) .skip))
  (.seq (.reg strip_Layout_r3)
  (.seq (.seq (.reg strip_Layout_r4)
  (.block 0 (.loop (.seq (.reg strip_Layout_r5)
  (.seq (.cond (tZ 38) .skip (.exit 0))
  (.seq (.block 1 (.seq (.reg strip_Layout_r6)
  (.seq (.regd strip_Layout_r7 strip_Layout_a7)
  (.seq (.reg strip_Layout_r8)
  (.seq (.seq (.reg strip_Layout_r9)
  (.cond (tZ 58) (.seq (.reg strip_Layout_r10)
  .ret) .skip))
  (.seq (.reg strip_Layout_r11)
  (.block 2 (.loop (.seq (.reg strip_Layout_r12)
  (.seq (.cond (tZ 62) .skip (.exit 2))
  (.seq (.block 3 (.seq (.reg strip_Layout_r13)
  (.reg strip_Layout_r14)))
  (.reg strip_Layout_r15))))))))))))
  (.reg strip_Layout_r16)))))))
  (.seq (.reg strip_Layout_r17)
  .ret))))), [.tmp 6, .tmp 7]⟩
theorem strip_Layout_s : slimF Try.prog 30 = some strip_Layout_c := by kernel_rfl
abbrev strip_Layout_f : Nat := 30
/-- printworks/strip.Draw -/
def strip_Draw_r0 : List SO := [rZ 8 (.assign (.const (.slice none 0 0))), rZ 9 (.assign (ciZ 0))]
def strip_Draw_r1 : List SO := [mvZ 18 0, mvZ 19 1, mvZ 20 2, rZ 21 (.call ⟨(.value (.func (63 : Nat))), #[(tZ 18), (tZ 19), (tZ 20)], #[61, 3, 3]⟩), asZ 10 21]
def strip_Draw_r2 : List SO := [mvZ 22 10, bcZ 23 .neq 25 22 0 25]
def strip_Draw_r3 : List SO := [mvZ 24 10, rZ 8 (.assign (.const (.slice none 0 0))), asZ 9 24]
def strip_Draw_r4 : List SO := [mvZ 25 3, bcZ 26 .lss 3 25 1 3, mvZ 27 26, gZ 27 false (mvZ 28 3), gZ 27 false (bcZ 29 .gtr 3 28 1024 3), rZ 30 (.pick (tZ 27) (.const (.bool true)) (tZ 29))]
def strip_Draw_r5 : List SO := [rZ 8 (.assign (.const (.slice none 0 0))), rZ 9 (.assign (ciZ 3))]
def strip_Draw_r6 : List SO := [mvZ 31 1, rZ 32 (.makeSlice 64 (tZ 31) (tZ 31)), asZ 11 32]
def strip_Draw_r7 : List SO := [mvZ 33 11, rZ 34 (.call ⟨(.builtin .len), #[(tZ 33)], #[64]⟩), rZ 35 (.move (ciZ 0))]
def strip_Draw_r8 : List SO := [boZ 36 .lss 3 35 34 3]
def strip_Draw_r9 : List SO := [mvZ 37 35, asZ 12 37]
def strip_Draw_r10 : List SO := [mvZ 38 11, mvZ 39 12, mvZ 40 2, mvZ 41 3, mvZ 42 2, mvZ 43 3, boZ 44 .mul 3 42 43 3, rZ 45 (.makeSlice 22 (tZ 44) (tZ 44)), rZ 46 (.build 68 #[(0, (tZ 40)), (1, (tZ 41)), (2, (tZ 45))]), iaZ 47 64 38 39, stZ 68 47 46]
def strip_Draw_r11 : List SO := [bcZ 48 .add 3 35 1 3, mvZ 35 48]
def strip_Draw_r12 : List SO := [mvZ 49 0, rZ 50 (.call ⟨(.builtin .len), #[(tZ 49)], #[61]⟩), rZ 51 (.move (ciZ 0))]
def strip_Draw_r13 : List SO := [boZ 52 .lss 3 51 50 3]
def strip_Draw_r14 : List SO := [iaZ 53 61 49 51, ldZ 54 117 53, rZ 14 (.alloc 117), stZ 117 14 54]
def strip_Draw_r15 : List SO := [rZ 15 (.assign (.const (.int .u8 255)))]
def strip_Draw_r16 : List SO := [faZ 55 117 14 2, ldZ 56 3 55, bcZ 57 .eql 3 56 1 3]
def strip_Draw_r17 : List SO := [rZ 15 (.assign (.const (.int .u8 128)))]
def strip_Draw_r18 : List SO := [mvZ 58 3, rZ 59 (.move (ciZ 0))]
def strip_Draw_r19 : List SO := [boZ 60 .lss 3 59 58 3]
def strip_Draw_r20 : List SO := [mvZ 61 59, asZ 16 61]
def strip_Draw_r21 : List SO := [faZ 62 117 14 1, ldZ 63 3 62, rZ 64 (.move (ciZ 0))]
def strip_Draw_r22 : List SO := [boZ 65 .lss 3 64 63 3]
def strip_Draw_r23 : List SO := [mvZ 66 64, asZ 17 66]
def strip_Draw_r24 : List SO := [mvZ 67 11, faZ 68 117 14 3, ldZ 69 3 68, iaZ 70 64 67 69, faZ 71 68 70 2, ldZ 72 22 71, mvZ 73 16, mvZ 74 2, boZ 75 .mul 3 73 74 3, faZ 76 117 14 0, ldZ 77 3 76, boZ 78 .add 3 75 77 3, mvZ 79 17, boZ 80 .add 3 78 79 3, mvZ 81 15, iaZ 82 22 72 80, stZ 5 82 81]
def strip_Draw_a24 : List (List Nat) := [[], [], [1], [0, 2], [3], [4], [], [], [6, 7], [], [9], [8, 10], [], [11, 12], [], [5, 13, 0, 1, 2, 3, 4, 5, 6, 7, 8, 9, 10, 11, 12, 13, 14], [15, 14, 0, 1, 2, 3, 4, 5, 6, 7, 8, 9, 10, 11, 12, 13, 14]]
def strip_Draw_r25 : List SO := [bcZ 83 .add 3 64 1 3, mvZ 64 83]
def strip_Draw_r26 : List SO := [bcZ 84 .add 3 59 1 3, mvZ 59 84]
def strip_Draw_r27 : List SO := [bcZ 85 .add 3 51 1 3, mvZ 51 85]
def strip_Draw_r28 : List SO := [mvZ 86 11, asZ 8 86, rZ 9 (.assign (ciZ 0))]
def strip_Draw_c : SF := ⟨87, (.seq (.reg strip_Draw_r0)
  (.seq (.seq (.reg strip_Draw_r1)
  (.seq (.reg strip_Draw_r2)
  (.cond (tZ 23) (.seq (.reg strip_Draw_r3)
  .ret) .skip)))
  (.seq (.seq (.reg strip_Draw_r4)
  (.cond (tZ 30) (.seq (.reg strip_Draw_r5)
  .ret) .skip))
  (.seq (.reg strip_Draw_r6)
  (.seq (.seq (.reg strip_Draw_r7)
  (.block 0 (.loop (.seq (.reg strip_Draw_r8)
  (.seq (.cond (tZ 36) .skip (.exit 0))
  (.seq (.block 1 (.seq (.reg strip_Draw_r9)
  (.reg strip_Draw_r10)))
  (.reg strip_Draw_r11)))))))
  (.seq (.seq (.reg strip_Draw_r12)
  (.block 2 (.loop (.seq (.reg strip_Draw_r13)
  (.seq (.cond (tZ 52) .skip (.exit 2))
  (.seq (.block 3 (.seq (.reg strip_Draw_r14)
  (.seq (.reg strip_Draw_r15)
  (.seq (.seq (.reg strip_Draw_r16)
  (.cond (tZ 57) (.reg strip_Draw_r17) .skip))
  (.seq (.reg strip_Draw_r18)
  (.block 4 (.loop (.seq (.reg strip_Draw_r19)
  (.seq (.cond (tZ 60) .skip (.exit 4))
  (.seq (.block 5 (.seq (.reg strip_Draw_r20)
  (.seq (.reg strip_Draw_r21)
  (.block 6 (.loop (.seq (.reg strip_Draw_r22)
  (.seq (.cond (tZ 65) .skip (.exit 6))
  (.seq (.block 7 (.seq (.reg strip_Draw_r23)
  (.regd strip_Draw_r24 strip_Draw_a24)))
  (.reg strip_Draw_r25)))))))))
  (.reg strip_Draw_r26)))))))))))
  (.reg strip_Draw_r27)))))))
  (.seq (.reg strip_Draw_r28)
  .ret))))))), [.tmp 8, .tmp 9]⟩
theorem strip_Draw_s : slimF Try.prog 31 = some strip_Draw_c := by kernel_rfl
abbrev strip_Draw_f : Nat := 31
/-- printworks/strip.Read -/
def strip_Read_r0 : List SO := [rZ 4 (.assign (.const (.slice none 0 0))), rZ 5 (.assign (ciZ 0))]
def strip_Read_r1 : List SO := [mvZ 15 1, rZ 16 (.call ⟨(.builtin .len), #[(tZ 15)], #[67]⟩), bcZ 17 .gtr 3 16 8 3, asZ 14 17]
def strip_Read_r2 : List SO := [rZ 4 (.assign (.const (.slice none 0 0))), rZ 5 (.assign (ciZ 2))]
def strip_Read_r3 : List SO := [mvZ 19 1, rZ 20 (.call ⟨(.builtin .len), #[(tZ 19)], #[67]⟩), bcZ 21 .eql 3 20 0 3, asZ 18 21]
def strip_Read_r4 : List SO := [rZ 4 (.assign (.const (.slice none 0 0))), rZ 5 (.assign (ciZ 1))]
def strip_Read_r5 : List SO := [mvZ 22 1, rZ 23 (.call ⟨(.builtin .len), #[(tZ 22)], #[67]⟩), rZ 24 (.move (ciZ 0))]
def strip_Read_r6 : List SO := [boZ 25 .lss 3 24 23 3]
def strip_Read_r7 : List SO := [iaZ 26 67 22 24, ldZ 27 29 26, rZ 7 (.alloc 29), stZ 29 7 27]
def strip_Read_r8 : List SO := [ldZ 28 29 7, rZ 29 (.call ⟨(.value (.func (12 : Nat))), #[(tZ 28)], #[29]⟩), asZ 8 29]
def strip_Read_r9 : List SO := [mvZ 30 8, bcZ 31 .neq 25 30 0 25]
def strip_Read_r10 : List SO := [mvZ 32 8, rZ 4 (.assign (.const (.slice none 0 0))), asZ 5 32]
def strip_Read_r11 : List SO := [faZ 33 29 7 0, ldZ 34 3 33, mvZ 35 1, rZ 36 (.indexAddr 67 (tZ 35) (ciZ 0)), faZ 37 29 36 0, ldZ 38 3 37, boZ 39 .neq 3 34 38 3, mvZ 40 39, gZ 40 false (faZ 41 29 7 1), gZ 40 false (ldZ 42 3 41), gZ 40 false (mvZ 43 1), gZ 40 false (rZ 44 (.indexAddr 67 (tZ 43) (ciZ 0))), gZ 40 false (faZ 45 29 44 1), gZ 40 false (ldZ 46 3 45), gZ 40 false (boZ 47 .neq 3 42 46 3), rZ 48 (.pick (tZ 40) (.const (.bool true)) (tZ 47))]
def strip_Read_a11 : List (List Nat) := [[], [0], [], [2], [3], [4], [1, 5], [6], [7], [8, 7], [7], [10, 7], [11, 7], [12, 7], [9, 13, 7], [7, 14]]
def strip_Read_r12 : List SO := [rZ 4 (.assign (.const (.slice none 0 0))), rZ 5 (.assign (ciZ 4))]
def strip_Read_r13 : List SO := [bcZ 49 .add 3 24 1 3, mvZ 24 49]
def strip_Read_r14 : List SO := [mvZ 50 0, mvZ 51 1, rZ 52 (.call ⟨(.builtin .len), #[(tZ 51)], #[67]⟩), mvZ 53 1, rZ 54 (.indexAddr 67 (tZ 53) (ciZ 0)), faZ 55 29 54 0, ldZ 56 3 55, rZ 57 (.call ⟨(.value (.func (63 : Nat))), #[(tZ 50), (tZ 52), (tZ 56)], #[61, 3, 3]⟩), asZ 9 57]
def strip_Read_r15 : List SO := [mvZ 58 9, bcZ 59 .neq 25 58 0 25]
def strip_Read_r16 : List SO := [mvZ 60 9, rZ 4 (.assign (.const (.slice none 0 0))), asZ 5 60]
def strip_Read_r17 : List SO := [rZ 10 (.assign (.const (.slice none 0 0)))]
def strip_Read_r18 : List SO := [rZ 11 (.assign (ciZ 1))]
def strip_Read_r19 : List SO := [mvZ 61 11, mvZ 62 0, rZ 63 (.call ⟨(.builtin .len), #[(tZ 62)], #[61]⟩), boZ 64 .lss 3 61 63 3]
def strip_Read_r20 : List SO := [mvZ 67 0, mvZ 68 11, bcZ 69 .sub 3 68 1 3, iaZ 70 61 67 69, ldZ 71 117 70, mvZ 72 0, mvZ 73 11, iaZ 74 61 72 73, ldZ 75 117 74, rZ 12 (.alloc 117), rZ 13 (.alloc 117), stZ 117 12 71, stZ 117 13 75]
def strip_Read_a20 : List (List Nat) := [[], [], [1], [0, 2], [3], [], [], [5, 6], [7], [], [], [9, 4, 0, 1, 2, 3, 4, 9, 10], [10, 8, 11, 0, 1, 2, 3, 4, 5, 6, 7, 8, 9, 10, 11]]
def strip_Read_r21 : List SO := [faZ 76 117 12 2, ldZ 77 3 76, bcZ 78 .eql 3 77 0 3, mvZ 79 78, gZ 79 true (faZ 80 117 13 2), gZ 79 true (ldZ 81 3 80), gZ 79 true (bcZ 82 .eql 3 81 1 3), rZ 83 (.pick (tZ 79) (tZ 82) (.const (.bool false))), mvZ 84 83, gZ 84 true (faZ 85 117 12 3), gZ 84 true (ldZ 86 3 85), gZ 84 true (faZ 87 117 13 3), gZ 84 true (ldZ 88 3 87), gZ 84 true (boZ 89 .eql 3 86 88 3), rZ 90 (.pick (tZ 84) (tZ 89) (.const (.bool false))), mvZ 91 90, gZ 91 true (faZ 92 117 12 4), gZ 91 true (ldZ 93 3 92), gZ 91 true (faZ 94 117 13 4), gZ 91 true (ldZ 95 3 94), gZ 91 true (boZ 96 .eql 3 93 95 3), rZ 97 (.pick (tZ 91) (tZ 96) (.const (.bool false)))]
def strip_Read_r22 : List SO := [mvZ 98 10, faZ 99 117 12 3, ldZ 100 3 99, faZ 101 117 12 4, ldZ 102 3 101, mvZ 103 1, faZ 104 117 12 3, ldZ 105 3 104, iaZ 106 67 103 105, ldZ 107 117 12, rZ 108 (.call ⟨(.value (.func (67 : Nat))), #[(tZ 106), (tZ 107)], #[81, 117]⟩), mvZ 109 1, faZ 110 117 12 3, ldZ 111 3 110, iaZ 112 67 109 111, ldZ 113 117 13, rZ 114 (.call ⟨(.value (.func (67 : Nat))), #[(tZ 112), (tZ 113)], #[81, 117]⟩), rZ 115 (.build 74 #[(0, (tZ 100)), (1, (tZ 102)), (2, (tZ 108)), (3, (tZ 114))]), rZ 116 (.buildSlice 70 1 #[(0, (tZ 115))]), rZ 117 (.call ⟨(.builtin .append), #[(tZ 98), (tZ 116)], #[70, 70]⟩), asZ 10 117]
def strip_Read_a22 : List (List Nat) := [[], [], [1], [], [3], [], [], [6], [5, 7], [], [8, 9], [], [], [12], [11, 13], [], [14, 15, 10], [2, 4, 10, 16], [17], [0, 18, 16], [19, 19, 0, 1, 2, 3, 4, 5, 6, 7, 8, 9, 10, 11, 12, 13, 14, 15, 16, 17, 18, 19]]
def strip_Read_r23 : List SO := [mvZ 65 11, bcZ 66 .add 3 65 1 3, asZ 11 66]
def strip_Read_r24 : List SO := [mvZ 118 10, asZ 4 118, rZ 5 (.assign (ciZ 0))]
def strip_Read_c : SF := ⟨119, (.seq (.reg strip_Read_r0)
  (.seq (.block 0 (.seq (.reg strip_Read_r1)
  (.cond (tZ 14) (.seq (.reg strip_Read_r2)
  .ret) (.seq (.reg strip_Read_r3)
  (.cond (tZ 18) (.seq (.reg strip_Read_r4)
  .ret) .skip)))))
  (.seq (.seq (.reg strip_Read_r5)
  (.block 1 (.loop (.seq (.reg strip_Read_r6)
  (.seq (.cond (tZ 25) .skip (.exit 1))
  (.seq (.block 2 (.seq (.reg strip_Read_r7)
  (.seq (.seq (.reg strip_Read_r8)
  (.seq (.reg strip_Read_r9)
  (.cond (tZ 31) (.seq (.reg strip_Read_r10)
  .ret) .skip)))
  (.seq (.regd strip_Read_r11 strip_Read_a11)
  (.cond (tZ 48) (.seq (.reg strip_Read_r12)
  .ret) .skip)))))
  (.reg strip_Read_r13)))))))
  (.seq (.seq (.reg strip_Read_r14)
  (.seq (.reg strip_Read_r15)
  (.cond (tZ 59) (.seq (.reg strip_Read_r16)
  .ret) .skip)))
  (.seq (.reg strip_Read_r17)
  (.seq (.seq (.reg strip_Read_r18)
  (.block 3 (.loop (.seq (.seq (.reg strip_Read_r19)
  (.cond (tZ 64) .skip (.exit 3)))
  (.seq (.block 4 (.seq (.regd strip_Read_r20 strip_Read_a20)
  (.seq (.reg strip_Read_r21)
  (.cond (tZ 97) (.regd strip_Read_r22 strip_Read_a22) .skip))))
  (.reg strip_Read_r23))))))
  (.seq (.reg strip_Read_r24)
  .ret))))))), [.tmp 4, .tmp 5]⟩
theorem strip_Read_s : slimF Try.prog 33 = some strip_Read_c := by kernel_rfl
abbrev strip_Read_f : Nat := 33
/-- printworks/strip.Mark -/
def strip_Mark_r0 : List SO := [rZ 2 (.alloc 29), rZ 3 (.assign (ciZ 0))]
def strip_Mark_r1 : List SO := [mvZ 6 0, bcZ 7 .lss 3 6 1 3, mvZ 8 7, gZ 8 false (mvZ 9 0), gZ 8 false (bcZ 10 .gtr 3 9 16 3), rZ 11 (.pick (tZ 8) (.const (.bool true)) (tZ 10))]
def strip_Mark_r2 : List SO := [rZ 12 (.build 29 #[]), stZ 29 2 12, rZ 3 (.assign (ciZ 3))]
def strip_Mark_r3 : List SO := [mvZ 13 0, rZ 14 (.binOp .mul 3 (ciZ 2) (tZ 13) 3), bcZ 15 .add 3 14 1 3, mvZ 16 0, rZ 17 (.binOp .mul 3 (ciZ 2) (tZ 16) 3), bcZ 18 .add 3 17 1 3, rZ 19 (.call ⟨(.value (.func (36 : Nat))), #[(tZ 15), (tZ 18)], #[3, 3]⟩), rZ 4 (.alloc 29), stZ 29 4 19]
def strip_Mark_r4 : List SO := [mvZ 20 0, rZ 21 (.binOp .mul 3 (ciZ 2) (tZ 20) 3), bcZ 22 .add 3 21 1 3, rZ 23 (.move (ciZ 0))]
def strip_Mark_r5 : List SO := [boZ 24 .lss 3 23 22 3]
def strip_Mark_r6 : List SO := [mvZ 25 23, asZ 5 25]
def strip_Mark_r7 : List SO := [mvZ 26 5, mvZ 27 0, rZ 28 (.call ⟨(.value (.func (38 : Nat))), #[(tZ 4), (tZ 26), (tZ 27)], #[81, 3, 3]⟩)]
def strip_Mark_r8 : List SO := [mvZ 29 0, mvZ 30 5, rZ 31 (.call ⟨(.value (.func (38 : Nat))), #[(tZ 4), (tZ 29), (tZ 30)], #[81, 3, 3]⟩)]
def strip_Mark_r9 : List SO := [bcZ 32 .add 3 23 1 3, mvZ 23 32]
def strip_Mark_r10 : List SO := [ldZ 33 29 4, stZ 29 2 33, rZ 3 (.assign (ciZ 0))]
def strip_Mark_c : SF := ⟨34, (.seq (.reg strip_Mark_r0)
  (.seq (.seq (.reg strip_Mark_r1)
  (.cond (tZ 11) (.seq (.reg strip_Mark_r2)
  .ret) .skip))
  (.seq (.reg strip_Mark_r3)
  (.seq (.seq (.reg strip_Mark_r4)
  (.block 0 (.loop (.seq (.reg strip_Mark_r5)
  (.seq (.cond (tZ 24) .skip (.exit 0))
  (.seq (.block 1 (.seq (.reg strip_Mark_r6)
  (.seq (.reg strip_Mark_r7)
  (.reg strip_Mark_r8))))
  (.reg strip_Mark_r9)))))))
  (.seq (.reg strip_Mark_r10)
  .ret))))), [.cell 2 29, .tmp 3]⟩
theorem strip_Mark_s : slimF Try.prog 61 = some strip_Mark_c := by kernel_rfl
/-- printworks/strip.Locate -/
def strip_Locate_r0 : List SO := [rZ 2 (.box 29 (tZ 0)), rZ 4 (.alloc 113), rZ 5 (.assign (ciZ 0))]
def strip_Locate_r1 : List SO := [ldZ 14 29 2, rZ 15 (.call ⟨(.value (.func (12 : Nat))), #[(tZ 14)], #[29]⟩), asZ 6 15]
def strip_Locate_r2 : List SO := [mvZ 16 6, bcZ 17 .neq 25 16 0 25]
def strip_Locate_r3 : List SO := [rZ 18 (.build 113 #[]), mvZ 19 6, stZ 113 4 18, asZ 5 19]
def strip_Locate_r4 : List SO := [mvZ 20 1, bcZ 21 .lss 3 20 1 3, mvZ 22 21, gZ 22 false (mvZ 23 1), gZ 22 false (bcZ 24 .gtr 3 23 16 3), rZ 25 (.pick (tZ 22) (.const (.bool true)) (tZ 24))]
def strip_Locate_r5 : List SO := [rZ 26 (.build 113 #[]), stZ 113 4 26, rZ 5 (.assign (ciZ 3))]
def strip_Locate_r6 : List SO := [rZ 27 (.build 113 #[]), mvZ 28 1, bcZ 29 .quo 3 28 2 3, bcZ 30 .add 3 29 1 3, rZ 7 (.alloc 113), stZ 113 7 27, asZ 8 30]
def strip_Locate_r7 : List SO := [mvZ 31 1, asZ 9 31]
def strip_Locate_r8 : List SO := [mvZ 32 9, faZ 33 29 2 1, ldZ 34 3 33, mvZ 35 1, boZ 36 .sub 3 34 35 3, boZ 37 .lss 3 32 36 3]
def strip_Locate_r9 : List SO := [mvZ 40 1, asZ 10 40]
def strip_Locate_r10 : List SO := [mvZ 41 10, faZ 42 29 2 0, ldZ 43 3 42, mvZ 44 1, boZ 45 .sub 3 43 44 3, boZ 46 .lss 3 41 45 3]
def strip_Locate_r11 : List SO := [rZ 11 (.assign (ciZ 0))]
def strip_Locate_r12 : List SO := [mvZ 49 1, rZ 50 (.unOp .neg 3 (tZ 49)), asZ 12 50]
def strip_Locate_r13 : List SO := [mvZ 51 12, mvZ 52 1, boZ 53 .leq 3 51 52 3]
def strip_Locate_r14 : List SO := [mvZ 56 1, rZ 57 (.unOp .neg 3 (tZ 56)), asZ 13 57]
def strip_Locate_r15 : List SO := [mvZ 58 13, mvZ 59 1, boZ 60 .leq 3 58 59 3]
def strip_Locate_r16 : List SO := [mvZ 63 10, mvZ 64 13, boZ 65 .add 3 63 64 3, mvZ 66 9, mvZ 67 12, boZ 68 .add 3 66 67 3, rZ 69 (.call ⟨(.value (.func (51 : Nat))), #[(tZ 2), (tZ 65), (tZ 68)], #[81, 3, 3]⟩), mvZ 70 13, bcZ 71 .eql 3 70 0 3, mvZ 72 71, gZ 72 false (mvZ 73 12), gZ 72 false (bcZ 74 .eql 3 73 0 3), rZ 75 (.pick (tZ 72) (.const (.bool true)) (tZ 74)), boZ 76 .neq 4 69 75 4]
def strip_Locate_r17 : List SO := [mvZ 77 11, bcZ 78 .add 3 77 1 3, asZ 11 78]
def strip_Locate_r18 : List SO := [mvZ 79 11, mvZ 80 8, boZ 81 .geq 3 79 80 3]
def strip_Locate_r19 : List SO := [mvZ 61 13, bcZ 62 .add 3 61 1 3, asZ 13 62]
def strip_Locate_r20 : List SO := [mvZ 54 12, bcZ 55 .add 3 54 1 3, asZ 12 55]
def strip_Locate_r21 : List SO := [mvZ 82 10, mvZ 83 9, rZ 84 (.build 113 #[(0, (tZ 82)), (1, (tZ 83))]), mvZ 85 11, stZ 113 7 84, asZ 8 85]
def strip_Locate_r22 : List SO := [mvZ 47 10, bcZ 48 .add 3 47 1 3, asZ 10 48]
def strip_Locate_r23 : List SO := [mvZ 38 9, bcZ 39 .add 3 38 1 3, asZ 9 39]
def strip_Locate_r24 : List SO := [mvZ 86 8, mvZ 87 1, bcZ 88 .quo 3 87 2 3, boZ 89 .gtr 3 86 88 3]
def strip_Locate_r25 : List SO := [rZ 90 (.build 113 #[]), stZ 113 4 90, rZ 5 (.assign (ciZ 21))]
def strip_Locate_r26 : List SO := [ldZ 91 113 7, stZ 113 4 91, rZ 5 (.assign (ciZ 0))]
def strip_Locate_c : SF := ⟨92, (.seq (.reg strip_Locate_r0)
  (.seq (.seq (.reg strip_Locate_r1)
  (.seq (.reg strip_Locate_r2)
  (.cond (tZ 17) (.seq (.reg strip_Locate_r3)
  .ret) .skip)))
  (.seq (.seq (.reg strip_Locate_r4)
  (.cond (tZ 25) (.seq (.reg strip_Locate_r5)
  .ret) .skip))
  (.seq (.reg strip_Locate_r6)
  (.seq (.seq (.reg strip_Locate_r7)
  (.block 0 (.loop (.seq (.seq (.reg strip_Locate_r8)
  (.cond (tZ 37) .skip (.exit 0)))
  (.seq (.block 1 (.scope (.seq .skip
  (.seq (.reg strip_Locate_r9)
  (.block 2 (.loop (.seq (.seq (.reg strip_Locate_r10)
  (.cond (tZ 46) .skip (.exit 2)))
  (.seq (.block 3 (.seq (.reg strip_Locate_r11)
  (.seq (.seq (.reg strip_Locate_r12)
  (.block 4 (.loop (.seq (.seq (.reg strip_Locate_r13)
  (.cond (tZ 53) .skip (.exit 4)))
  (.seq (.block 5 (.seq (.reg strip_Locate_r14)
  (.block 6 (.loop (.seq (.seq (.reg strip_Locate_r15)
  (.cond (tZ 60) .skip (.exit 6)))
  (.seq (.block 7 (.seq (.reg strip_Locate_r16)
  (.cond (tZ 76) (.seq (.reg strip_Locate_r17)
  (.seq (.reg strip_Locate_r18)
  (.cond (tZ 81) (.exit 3) .skip))) .skip)))
  (.reg strip_Locate_r19)))))))
  (.reg strip_Locate_r20))))))
  (.reg strip_Locate_r21))))
  (.reg strip_Locate_r22)))))))))
  (.reg strip_Locate_r23))))))
  (.seq (.seq (.reg strip_Locate_r24)
  (.cond (tZ 89) (.seq (.reg strip_Locate_r25)
  .ret) .skip))
  (.seq (.reg strip_Locate_r26)
  .ret))))))), [.cell 4 113, .tmp 5]⟩
theorem strip_Locate_s : slimF Try.prog 62 = some strip_Locate_c := by kernel_rfl
/-- printworks/strip.Check -/
def strip_Check_r0 : List SO := [rZ 6 (.assign (ciZ 0))]
def strip_Check_r1 : List SO := [mvZ 9 0, rZ 10 (.call ⟨(.builtin .len), #[(tZ 9)], #[61]⟩), bcZ 11 .gtr 3 10 256 3]
def strip_Check_r2 : List SO := [rZ 6 (.assign (ciZ 2))]
def strip_Check_r3 : List SO := [mvZ 12 1, bcZ 13 .lss 3 12 1 3, mvZ 14 13, gZ 14 false (mvZ 15 1), gZ 14 false (bcZ 16 .gtr 3 15 8 3), rZ 17 (.pick (tZ 14) (.const (.bool true)) (tZ 16)), mvZ 18 17, gZ 18 false (mvZ 19 2), gZ 18 false (bcZ 20 .lss 3 19 1 3), rZ 21 (.pick (tZ 18) (.const (.bool true)) (tZ 20)), mvZ 22 21, gZ 22 false (mvZ 23 2), gZ 22 false (bcZ 24 .gtr 3 23 1024 3), rZ 25 (.pick (tZ 22) (.const (.bool true)) (tZ 24))]
def strip_Check_r4 : List SO := [rZ 6 (.assign (ciZ 3))]
def strip_Check_r5 : List SO := [mvZ 26 0, rZ 27 (.call ⟨(.builtin .len), #[(tZ 26)], #[61]⟩), rZ 28 (.move (ciZ 0))]
def strip_Check_r6 : List SO := [boZ 29 .lss 3 28 27 3]
def strip_Check_r7 : List SO := [mvZ 30 28, iaZ 31 61 26 28, ldZ 32 117 31, rZ 8 (.alloc 117), asZ 7 30, stZ 117 8 32]
def strip_Check_r8 : List SO := [faZ 33 117 8 2, ldZ 34 3 33, bcZ 35 .lss 3 34 0 3, mvZ 36 35, gZ 36 false (faZ 37 117 8 2), gZ 36 false (ldZ 38 3 37), gZ 36 false (bcZ 39 .gtr 3 38 1 3), rZ 40 (.pick (tZ 36) (.const (.bool true)) (tZ 39)), mvZ 41 40, gZ 41 false (faZ 42 117 8 3), gZ 41 false (ldZ 43 3 42), gZ 41 false (bcZ 44 .lss 3 43 0 3), rZ 45 (.pick (tZ 41) (.const (.bool true)) (tZ 44)), mvZ 46 45, gZ 46 false (faZ 47 117 8 3), gZ 46 false (ldZ 48 3 47), gZ 46 false (mvZ 49 1), gZ 46 false (boZ 50 .geq 3 48 49 3), rZ 51 (.pick (tZ 46) (.const (.bool true)) (tZ 50)), mvZ 52 51, gZ 52 false (faZ 53 117 8 4), gZ 52 false (ldZ 54 3 53), gZ 52 false (bcZ 55 .lss 3 54 0 3), rZ 56 (.pick (tZ 52) (.const (.bool true)) (tZ 55)), mvZ 57 56, gZ 57 false (faZ 58 117 8 4), gZ 57 false (ldZ 59 3 58), gZ 57 false (bcZ 60 .geq 3 59 16 3), rZ 61 (.pick (tZ 57) (.const (.bool true)) (tZ 60)), mvZ 62 61, gZ 62 false (faZ 63 117 8 1), gZ 62 false (ldZ 64 3 63), gZ 62 false (bcZ 65 .lss 3 64 1 3), rZ 66 (.pick (tZ 62) (.const (.bool true)) (tZ 65)), mvZ 67 66, gZ 67 false (faZ 68 117 8 1), gZ 67 false (ldZ 69 3 68), gZ 67 false (mvZ 70 2), gZ 67 false (boZ 71 .gtr 3 69 70 3), rZ 72 (.pick (tZ 67) (.const (.bool true)) (tZ 71)), mvZ 73 72, gZ 73 false (faZ 74 117 8 0), gZ 73 false (ldZ 75 3 74), gZ 73 false (bcZ 76 .lss 3 75 0 3), rZ 77 (.pick (tZ 73) (.const (.bool true)) (tZ 76)), mvZ 78 77, gZ 78 false (faZ 79 117 8 0), gZ 78 false (ldZ 80 3 79), gZ 78 false (mvZ 81 2), gZ 78 false (faZ 82 117 8 1), gZ 78 false (ldZ 83 3 82), gZ 78 false (boZ 84 .sub 3 81 83 3), gZ 78 false (boZ 85 .gtr 3 80 84 3), rZ 86 (.pick (tZ 78) (.const (.bool true)) (tZ 85))]
def strip_Check_r9 : List SO := [rZ 6 (.assign (ciZ 3))]
def strip_Check_r10 : List SO := [mvZ 87 7, bcZ 88 .gtr 3 87 0 3, mvZ 89 88, gZ 89 true (faZ 90 117 8 0), gZ 89 true (ldZ 91 3 90), gZ 89 true (mvZ 92 0), gZ 89 true (mvZ 93 7), gZ 89 true (bcZ 94 .sub 3 93 1 3), gZ 89 true (iaZ 95 61 92 94), gZ 89 true (faZ 96 117 95 0), gZ 89 true (ldZ 97 3 96), gZ 89 true (mvZ 98 0), gZ 89 true (mvZ 99 7), gZ 89 true (bcZ 100 .sub 3 99 1 3), gZ 89 true (iaZ 101 61 98 100), gZ 89 true (faZ 102 117 101 1), gZ 89 true (ldZ 103 3 102), gZ 89 true (boZ 104 .add 3 97 103 3), gZ 89 true (boZ 105 .lss 3 91 104 3), rZ 106 (.pick (tZ 89) (tZ 105) (.const (.bool false)))]
def strip_Check_a10 : List (List Nat) := [[], [0], [1], [2], [3, 2], [2], [2], [6, 2], [5, 7, 2], [8, 2], [9, 2], [2], [2], [12, 2], [11, 13, 2], [14, 2], [15, 2], [10, 16, 2], [4, 17, 2], [2, 18]]
def strip_Check_r11 : List SO := [rZ 6 (.assign (ciZ 18))]
def strip_Check_r12 : List SO := [bcZ 107 .add 3 28 1 3, mvZ 28 107]
def strip_Check_r13 : List SO := [rZ 6 (.assign (ciZ 0))]
def strip_Check_c : SF := ⟨108, (.seq (.reg strip_Check_r0)
  (.seq (.seq (.reg strip_Check_r1)
  (.cond (tZ 11) (.seq (.reg strip_Check_r2)
  .ret) .skip))
  (.seq (.seq (.reg strip_Check_r3)
  (.cond (tZ 25) (.seq (.reg strip_Check_r4)
  .ret) .skip))
  (.seq (.seq (.reg strip_Check_r5)
  (.block 0 (.loop (.seq (.reg strip_Check_r6)
  (.seq (.cond (tZ 29) .skip (.exit 0))
  (.seq (.block 1 (.seq (.reg strip_Check_r7)
  (.seq (.seq (.reg strip_Check_r8)
  (.cond (tZ 86) (.seq (.reg strip_Check_r9)
  .ret) .skip))
  (.seq (.regd strip_Check_r10 strip_Check_a10)
  (.cond (tZ 106) (.seq (.reg strip_Check_r11)
  .ret) .skip)))))
  (.reg strip_Check_r12)))))))
  (.seq (.reg strip_Check_r13)
  .ret))))), [.tmp 6]⟩
theorem strip_Check_s : slimF Try.prog 63 = some strip_Check_c := by kernel_rfl
abbrev strip_Check_f : Nat := 63
/-- printworks/strip.area -/
def strip_area_r0 : List SO := [rZ 3 (.box 117 (tZ 1)), rZ 4 (.assign (ciZ 0))]
def strip_area_r1 : List SO := [rZ 5 (.assign (ciZ 0))]
def strip_area_r2 : List SO := [mvZ 8 0, rZ 9 (.nilCheck (tZ 8)), faZ 10 29 9 1, ldZ 11 3 10, rZ 12 (.move (ciZ 0))]
def strip_area_r3 : List SO := [boZ 13 .lss 3 12 11 3]
def strip_area_r4 : List SO := [mvZ 14 12, asZ 6 14]
def strip_area_r5 : List SO := [faZ 15 117 3 1, ldZ 16 3 15, rZ 17 (.move (ciZ 0))]
def strip_area_r6 : List SO := [boZ 18 .lss 3 17 16 3]
def strip_area_r7 : List SO := [mvZ 19 17, asZ 7 19]
def strip_area_r8 : List SO := [mvZ 20 0, faZ 21 117 3 0, ldZ 22 3 21, mvZ 23 7, boZ 24 .add 3 22 23 3, mvZ 25 6, rZ 26 (.call ⟨(.value (.func (51 : Nat))), #[(tZ 20), (tZ 24), (tZ 25)], #[81, 3, 3]⟩)]
def strip_area_r9 : List SO := [mvZ 27 5, bcZ 28 .add 3 27 1 3, asZ 5 28]
def strip_area_r10 : List SO := [bcZ 29 .add 3 17 1 3, mvZ 17 29]
def strip_area_r11 : List SO := [bcZ 30 .add 3 12 1 3, mvZ 12 30]
def strip_area_r12 : List SO := [mvZ 31 5, rZ 32 (.binOp .mul 3 (ciZ 255) (tZ 31) 3), faZ 33 117 3 1, ldZ 34 3 33, mvZ 35 0, rZ 36 (.nilCheck (tZ 35)), faZ 37 29 36 1, ldZ 38 3 37, boZ 39 .mul 3 34 38 3, rZ 40 (.call ⟨(.value (.func (56 : Nat))), #[(tZ 32), (tZ 39)], #[3, 3]⟩), asZ 4 40]
def strip_area_a12 : List (List Nat) := [[], [0], [], [2], [], [4], [5], [6], [3, 7], [1, 8], [9, 9, 0, 1, 2, 3, 4, 5, 6, 7, 8, 9]]
def strip_area_c : SF := ⟨41, (.seq (.reg strip_area_r0)
  (.seq (.reg strip_area_r1)
  (.seq (.seq (.reg strip_area_r2)
  (.block 0 (.loop (.seq (.reg strip_area_r3)
  (.seq (.cond (tZ 13) .skip (.exit 0))
  (.seq (.block 1 (.seq (.reg strip_area_r4)
  (.seq (.reg strip_area_r5)
  (.block 2 (.loop (.seq (.reg strip_area_r6)
  (.seq (.cond (tZ 18) .skip (.exit 2))
  (.seq (.block 3 (.seq (.reg strip_area_r7)
  (.seq (.reg strip_area_r8)
  (.cond (tZ 26) (.reg strip_area_r9) .skip))))
  (.reg strip_area_r10)))))))))
  (.reg strip_area_r11)))))))
  (.seq (.regd strip_area_r12 strip_area_a12)
  .ret)))), [.tmp 4]⟩
theorem strip_area_s : slimF Try.prog 67 = some strip_area_c := by kernel_rfl
abbrev strip_area_f : Nat := 67

def tbl_strip : List (Nat × SF) := [(30, strip_Layout_c), (31, strip_Draw_c), (33, strip_Read_c), (61, strip_Mark_c), (62, strip_Locate_c), (63, strip_Check_c), (67, strip_area_c)]
theorem tbl_strip_ok : okT Try.prog tbl_strip := ⟨strip_Layout_s, strip_Draw_s, strip_Read_s, strip_Mark_s, strip_Locate_s, strip_Check_s, strip_area_s, trivial⟩

end Go.Proofs.Ythkilkjngincpaa
namespace Go.Proofs.Ythkilkjngincpaa
open Go Go.Lite
set_option linter.unusedVariables false

/-- printworks/curve.Nearest -/
def curve_Nearest_r0 : List SO := [rZ 4 (.assign (ciZ 0))]
def curve_Nearest_r1 : List SO := [mvZ 6 0, rZ 7 (.binOp .mul 3 (ciZ 2) (tZ 6) 3), mvZ 8 1, boZ 9 .add 3 7 8 3, mvZ 10 1, rZ 11 (.binOp .mul 3 (ciZ 2) (tZ 10) 3), asZ 0 9, asZ 1 11]
def curve_Nearest_r2 : List SO := [mvZ 12 0, mvZ 13 1, boZ 14 .quo 3 12 13 3, asZ 5 14]
def curve_Nearest_r3 : List SO := [mvZ 15 0, mvZ 16 1, boZ 17 .rem 3 15 16 3, bcZ 18 .lss 3 17 0 3]
def curve_Nearest_r4 : List SO := [mvZ 19 5, bcZ 20 .sub 3 19 1 3, asZ 5 20]
def curve_Nearest_r5 : List SO := [mvZ 21 5, asZ 4 21]
def curve_Nearest_c : SF := ⟨22, (.seq (.reg curve_Nearest_r0)
  (.seq (.reg curve_Nearest_r1)
  (.seq (.reg curve_Nearest_r2)
  (.seq (.seq (.reg curve_Nearest_r3)
  (.cond (tZ 18) (.reg curve_Nearest_r4) .skip))
  (.seq (.reg curve_Nearest_r5)
  .ret))))), [.tmp 4]⟩
theorem curve_Nearest_s : slimF Try.prog 56 = some curve_Nearest_c := by kernel_rfl
abbrev curve_Nearest_f : Nat := 56

def tbl_curve : List (Nat × SF) := [(56, curve_Nearest_c)]
theorem tbl_curve_ok : okT Try.prog tbl_curve := ⟨curve_Nearest_s, trivial⟩

end Go.Proofs.Ythkilkjngincpaa
namespace Go.Proofs.Ythkilkjngincpaa
open Go Go.Lite
set_option linter.unusedVariables false

/-- printworks/devicelink.CheckPlate -/
def devicelink_CheckPlate_r0 : List SO := [rZ 1 (.box 68 (tZ 0)), rZ 2 (.assign (ciZ 0))]
def devicelink_CheckPlate_r1 : List SO := [faZ 3 68 1 0, ldZ 4 3 3, bcZ 5 .lss 3 4 1 3, mvZ 6 5, gZ 6 false (faZ 7 68 1 0), gZ 6 false (ldZ 8 3 7), gZ 6 false (bcZ 9 .gtr 3 8 1024 3), rZ 10 (.pick (tZ 6) (.const (.bool true)) (tZ 9)), mvZ 11 10, gZ 11 false (faZ 12 68 1 1), gZ 11 false (ldZ 13 3 12), gZ 11 false (bcZ 14 .lss 3 13 1 3), rZ 15 (.pick (tZ 11) (.const (.bool true)) (tZ 14)), mvZ 16 15, gZ 16 false (faZ 17 68 1 1), gZ 16 false (ldZ 18 3 17), gZ 16 false (bcZ 19 .gtr 3 18 1024 3), rZ 20 (.pick (tZ 16) (.const (.bool true)) (tZ 19))]
def devicelink_CheckPlate_r2 : List SO := [rZ 2 (.assign (ciZ 3))]
def devicelink_CheckPlate_r3 : List SO := [faZ 21 68 1 2, ldZ 22 22 21, rZ 23 (.call ⟨(.builtin .len), #[(tZ 22)], #[22]⟩), faZ 24 68 1 0, ldZ 25 3 24, faZ 26 68 1 1, ldZ 27 3 26, boZ 28 .mul 3 25 27 3, boZ 29 .neq 3 23 28 3]
def devicelink_CheckPlate_r4 : List SO := [rZ 2 (.assign (ciZ 4))]
def devicelink_CheckPlate_r5 : List SO := [rZ 2 (.assign (ciZ 0))]
def devicelink_CheckPlate_c : SF := ⟨30, (.seq (.reg devicelink_CheckPlate_r0)
  (.seq (.seq (.reg devicelink_CheckPlate_r1)
  (.cond (tZ 20) (.seq (.reg devicelink_CheckPlate_r2)
  .ret) .skip))
  (.seq (.seq (.reg devicelink_CheckPlate_r3)
  (.cond (tZ 29) (.seq (.reg devicelink_CheckPlate_r4)
  .ret) .skip))
  (.seq (.reg devicelink_CheckPlate_r5)
  .ret)))), [.tmp 2]⟩
theorem devicelink_CheckPlate_s : slimF Try.prog 64 = some devicelink_CheckPlate_c := by kernel_rfl
abbrev devicelink_CheckPlate_f : Nat := 64

end Go.Proofs.Ythkilkjngincpaa
namespace Go.Proofs.Ythkilkjngincpaa
open Go Go.Lite
set_option linter.unusedVariables false

/-- printworks/printworkskeep2.matrixWorks -/
def K2_matrixWorks_r0 : List SO := [rZ 0 (.assign (.const (.bool false)))]
def K2_matrixWorks_r1 : List SO := [rZ 12 (.call ⟨(.value (.func (11 : Nat))), #[(.const (.slice none 0 0)), (ciZ 8)], #[22, 3]⟩), mvZ 11 12, exZ 13 11 0, exZ 14 11 1, rZ 1 (.alloc 29), stZ 29 1 13, asZ 2 14]
def K2_matrixWorks_r2 : List SO := [rZ 16 (.call ⟨(.value (.func (10 : Nat))), #[(ciZ 12)], #[3]⟩), mvZ 15 16, exZ 17 15 0, exZ 18 15 1, exZ 19 15 2, exZ 20 15 3, asZ 3 17, asZ 4 18, asZ 5 19, asZ 6 20]
def K2_matrixWorks_r3 : List SO := [rZ 22 (.buildSlice 22 8 #[(0, (.const (.int .u8 170))), (1, (.const (.int .u8 129))), (2, (.const (.int .u8 128))), (3, (.const (.int .u8 129))), (4, (.const (.int .u8 128))), (5, (.const (.int .u8 129))), (6, (.const (.int .u8 128))), (7, (.const (.int .u8 255)))]), rZ 23 (.build 29 #[(0, (ciZ 8)), (1, (ciZ 8)), (2, (tZ 22))]), rZ 24 (.call ⟨(.value (.func (22 : Nat))), #[(tZ 23)], #[29]⟩), mvZ 21 24, exZ 25 21 0, exZ 26 21 1, exZ 27 21 2, exZ 28 21 3, asZ 7 25, asZ 8 26, asZ 9 27, asZ 10 28]
def K2_matrixWorks_r4 : List SO := [mvZ 29 2, bcZ 30 .eql 25 29 0 25, mvZ 31 30, gZ 31 true (faZ 32 29 1 2), gZ 31 true (ldZ 33 22 32), gZ 31 true (rZ 34 (.buildSlice 22 8 #[(0, (.const (.int .u8 170))), (1, (.const (.int .u8 129))), (2, (.const (.int .u8 128))), (3, (.const (.int .u8 129))), (4, (.const (.int .u8 128))), (5, (.const (.int .u8 129))), (6, (.const (.int .u8 128))), (7, (.const (.int .u8 255)))])), gZ 31 true (rZ 35 (.call ⟨(.value (.func (15 : Nat))), #[(tZ 33), (tZ 34)], #[22, 22]⟩)), rZ 36 (.pick (tZ 31) (tZ 35) (.const (.bool false))), mvZ 37 36, gZ 37 true (mvZ 38 6), gZ 37 true (bcZ 39 .eql 25 38 0 25), rZ 40 (.pick (tZ 37) (tZ 39) (.const (.bool false))), mvZ 41 40, gZ 41 true (mvZ 42 3), gZ 41 true (bcZ 43 .eql 3 42 12 3), rZ 44 (.pick (tZ 41) (tZ 43) (.const (.bool false))), mvZ 45 44, gZ 45 true (mvZ 46 4), gZ 45 true (bcZ 47 .eql 3 46 4 3), rZ 48 (.pick (tZ 45) (tZ 47) (.const (.bool false))), mvZ 49 48, gZ 49 true (mvZ 50 5), gZ 49 true (bcZ 51 .eql 3 50 7 3), rZ 52 (.pick (tZ 49) (tZ 51) (.const (.bool false))), mvZ 53 52, gZ 53 true (mvZ 54 10), gZ 53 true (bcZ 55 .eql 25 54 0 25), rZ 56 (.pick (tZ 53) (tZ 55) (.const (.bool false))), mvZ 57 56, gZ 57 true (mvZ 58 8), gZ 57 true (bcZ 59 .eql 3 58 0 3), rZ 60 (.pick (tZ 57) (tZ 59) (.const (.bool false))), mvZ 61 60, gZ 61 true (mvZ 62 9), gZ 61 true (bcZ 63 .eql 3 62 0 3), rZ 64 (.pick (tZ 61) (tZ 63) (.const (.bool false))), asZ 0 64]
def K2_matrixWorks_c : SF := ⟨65, (.seq (.reg K2_matrixWorks_r0)
  (.seq (.reg K2_matrixWorks_r1)
  (.seq (.reg K2_matrixWorks_r2)
  (.seq (.reg K2_matrixWorks_r3)
  (.seq (.reg K2_matrixWorks_r4)
  .ret))))), [.tmp 0]⟩
theorem K2_matrixWorks_s : slimF Try.prog 8 = some K2_matrixWorks_c := by kernel_rfl
/-- printworks/printworkskeep2.reedsolomonWorks -/
def K2_reedsolomonWorks_r0 : List SO := [rZ 0 (.assign (.const (.bool false)))]
def K2_reedsolomonWorks_r1 : List SO := [rZ 9 (.buildSlice 22 1 #[(0, (.const (.int .u8 1)))]), rZ 10 (.call ⟨(.value (.func (17 : Nat))), #[(tZ 9), (ciZ 2)], #[22, 3]⟩), mvZ 8 10, exZ 11 8 0, exZ 12 8 1, asZ 1 11, asZ 2 12]
def K2_reedsolomonWorks_r2 : List SO := [rZ 14 (.buildSlice 22 3 #[(0, (.const (.int .u8 0))), (1, (.const (.int .u8 3))), (2, (.const (.int .u8 2)))]), rZ 15 (.call ⟨(.value (.func (18 : Nat))), #[(tZ 14), (ciZ 2), (.const (.slice none 0 0))], #[22, 3, 38]⟩), mvZ 13 15, exZ 16 13 0, exZ 17 13 1, exZ 18 13 2, asZ 3 16, asZ 4 17, asZ 5 18]
def K2_reedsolomonWorks_r3 : List SO := [rZ 20 (.call ⟨(.value (.func (43 : Nat))), #[(.const (.int .u8 2))], #[5]⟩), mvZ 19 20, exZ 21 19 0, exZ 22 19 1, asZ 6 21, asZ 7 22]
def K2_reedsolomonWorks_r4 : List SO := [mvZ 23 2, bcZ 24 .eql 25 23 0 25, mvZ 25 24, gZ 25 true (mvZ 26 1), gZ 25 true (rZ 27 (.buildSlice 22 3 #[(0, (.const (.int .u8 1))), (1, (.const (.int .u8 3))), (2, (.const (.int .u8 2)))])), gZ 25 true (rZ 28 (.call ⟨(.value (.func (15 : Nat))), #[(tZ 26), (tZ 27)], #[22, 22]⟩)), rZ 29 (.pick (tZ 25) (tZ 28) (.const (.bool false))), mvZ 30 29, gZ 30 true (mvZ 31 5), gZ 30 true (bcZ 32 .eql 25 31 0 25), rZ 33 (.pick (tZ 30) (tZ 32) (.const (.bool false))), mvZ 34 33, gZ 34 true (mvZ 35 4), gZ 34 true (bcZ 36 .eql 3 35 1 3), rZ 37 (.pick (tZ 34) (tZ 36) (.const (.bool false))), mvZ 38 37, gZ 38 true (mvZ 39 3), gZ 38 true (mvZ 40 1), gZ 38 true (rZ 41 (.call ⟨(.value (.func (15 : Nat))), #[(tZ 39), (tZ 40)], #[22, 22]⟩)), rZ 42 (.pick (tZ 38) (tZ 41) (.const (.bool false))), mvZ 43 42, gZ 43 true (mvZ 44 7), gZ 43 true (bcZ 45 .eql 25 44 0 25), rZ 46 (.pick (tZ 43) (tZ 45) (.const (.bool false))), mvZ 47 46, gZ 47 true (mvZ 48 6), gZ 47 true (rZ 49 (.binOp .eql 5 (tZ 48) (.const (.int .u8 142)) 5)), rZ 50 (.pick (tZ 47) (tZ 49) (.const (.bool false))), mvZ 51 50, gZ 51 true (rZ 52 (.call ⟨(.value (.func (44 : Nat))), #[(.const (.int .u8 2)), (.const (.int .u8 128))], #[5, 5]⟩)), gZ 51 true (rZ 53 (.binOp .eql 5 (tZ 52) (.const (.int .u8 29)) 5)), rZ 54 (.pick (tZ 51) (tZ 53) (.const (.bool false))), asZ 0 54]
def K2_reedsolomonWorks_c : SF := ⟨55, (.seq (.reg K2_reedsolomonWorks_r0)
  (.seq (.reg K2_reedsolomonWorks_r1)
  (.seq (.reg K2_reedsolomonWorks_r2)
  (.seq (.reg K2_reedsolomonWorks_r3)
  (.seq (.reg K2_reedsolomonWorks_r4)
  .ret))))), [.tmp 0]⟩
theorem K2_reedsolomonWorks_s : slimF Try.prog 16 = some K2_reedsolomonWorks_c := by kernel_rfl
/-- printworks/printworkskeep2.stripWorks -/
def K2_stripWorks_r0 : List SO := [rZ 0 (.assign (.const (.bool false)))]
def K2_stripWorks_r1 : List SO := [rZ 8 (.call ⟨(.value (.func (30 : Nat))), #[(ciZ 1), (ciZ 2), (ciZ 20)], #[3, 3, 3]⟩), mvZ 7 8, exZ 9 7 0, exZ 10 7 1, asZ 1 9, asZ 2 10]
def K2_stripWorks_r2 : List SO := [rZ 12 (.call ⟨(.value (.func (61 : Nat))), #[(ciZ 1)], #[3]⟩), mvZ 11 12, exZ 13 11 0, exZ 14 11 1, rZ 3 (.alloc 29), stZ 29 3 13, asZ 4 14]
def K2_stripWorks_r3 : List SO := [rZ 16 (.buildSlice 22 4 #[(0, (.const (.int .u8 0))), (1, (.const (.int .u8 16))), (2, (.const (.int .u8 56))), (3, (.const (.int .u8 16)))]), rZ 17 (.build 29 #[(0, (ciZ 5)), (1, (ciZ 4)), (2, (tZ 16))]), rZ 18 (.call ⟨(.value (.func (62 : Nat))), #[(tZ 17), (ciZ 1)], #[29, 3]⟩), mvZ 15 18, exZ 19 15 0, exZ 20 15 1, rZ 5 (.alloc 113), stZ 113 5 19, asZ 6 20]
def K2_stripWorks_r4 : List SO := [mvZ 21 2, bcZ 22 .eql 25 21 0 25, mvZ 23 22, gZ 23 true (mvZ 24 1), gZ 23 true (rZ 25 (.call ⟨(.builtin .len), #[(tZ 24)], #[61]⟩)), gZ 23 true (bcZ 26 .eql 3 25 4 3), rZ 27 (.pick (tZ 23) (tZ 26) (.const (.bool false))), mvZ 28 27, gZ 28 true (mvZ 29 1), gZ 28 true (rZ 30 (.indexAddr 61 (tZ 29) (ciZ 3))), gZ 28 true (ldZ 31 117 30), gZ 28 true (rZ 32 (.build 117 #[(0, (ciZ 15)), (1, (ciZ 5)), (2, (ciZ 1)), (4, (ciZ 1))])), gZ 28 true (boZ 33 .eql 117 31 32 117), rZ 34 (.pick (tZ 28) (tZ 33) (.const (.bool false))), mvZ 35 34, gZ 35 true (mvZ 36 4), gZ 35 true (bcZ 37 .eql 25 36 0 25), rZ 38 (.pick (tZ 35) (tZ 37) (.const (.bool false))), mvZ 39 38, gZ 39 true (faZ 40 29 3 2), gZ 39 true (ldZ 41 22 40), gZ 39 true (rZ 42 (.buildSlice 22 3 #[(0, (.const (.int .u8 64))), (1, (.const (.int .u8 224))), (2, (.const (.int .u8 64)))])), gZ 39 true (rZ 43 (.call ⟨(.value (.func (15 : Nat))), #[(tZ 41), (tZ 42)], #[22, 22]⟩)), rZ 44 (.pick (tZ 39) (tZ 43) (.const (.bool false))), mvZ 45 44, gZ 45 true (mvZ 46 6), gZ 45 true (bcZ 47 .eql 25 46 0 25), rZ 48 (.pick (tZ 45) (tZ 47) (.const (.bool false))), mvZ 49 48, gZ 49 true (ldZ 50 113 5), gZ 49 true (rZ 51 (.build 113 #[(0, (ciZ 3)), (1, (ciZ 2))])), gZ 49 true (boZ 52 .eql 113 50 51 113), rZ 53 (.pick (tZ 49) (tZ 52) (.const (.bool false))), asZ 0 53]
def K2_stripWorks_c : SF := ⟨54, (.seq (.reg K2_stripWorks_r0)
  (.seq (.reg K2_stripWorks_r1)
  (.seq (.reg K2_stripWorks_r2)
  (.seq (.reg K2_stripWorks_r3)
  (.seq (.reg K2_stripWorks_r4)
  .ret))))), [.tmp 0]⟩
theorem K2_stripWorks_s : slimF Try.prog 29 = some K2_stripWorks_c := by kernel_rfl
abbrev K2_stripWorks_f : Nat := 29

def tbl_K2 : List (Nat × SF) := [(8, K2_matrixWorks_c), (16, K2_reedsolomonWorks_c), (29, K2_stripWorks_c)]
theorem tbl_K2_ok : okT Try.prog tbl_K2 := ⟨K2_matrixWorks_s, K2_reedsolomonWorks_s, K2_stripWorks_s, trivial⟩

end Go.Proofs.Ythkilkjngincpaa
namespace Go.Proofs.Ythkilkjngincpaa
open Go Go.Lite
set_option linter.unusedVariables false

/-- printworks/printworksref2.Mod -/
def R2_Mod_r0 : List SO := [rZ 4 (.assign (ciZ 0))]
def R2_Mod_r1 : List SO := [mvZ 5 0, mvZ 6 1, mvZ 7 0, mvZ 8 1, rZ 9 (.call ⟨(.value (.func (34 : Nat))), #[(tZ 7), (tZ 8)], #[3, 3]⟩), boZ 10 .mul 3 6 9 3, boZ 11 .sub 3 5 10 3, asZ 4 11]
def R2_Mod_c : SF := ⟨12, (.seq (.reg R2_Mod_r0)
  (.seq (.reg R2_Mod_r1)
  .ret)), [.tmp 4]⟩
theorem R2_Mod_s : slimF Try.prog 9 = some R2_Mod_c := by kernel_rfl
abbrev R2_Mod_f : Nat := 9
/-- printworks/printworksref2.Bit -/
def R2_Bit_r0 : List SO := [rZ 3 (.box 29 (tZ 0)), rZ 6 (.assign (.const (.bool false)))]
def R2_Bit_r1 : List SO := [mvZ 7 1, faZ 8 29 3 0, ldZ 9 3 8, bcZ 10 .sub 3 9 1 3, rZ 11 (.call ⟨(.value (.func (40 : Nat))), #[(tZ 7), (ciZ 0), (tZ 10)], #[3, 3, 3]⟩), rZ 12 (.unOp .not 4 (tZ 11)), mvZ 13 12, gZ 13 false (mvZ 14 2), gZ 13 false (faZ 15 29 3 1), gZ 13 false (ldZ 16 3 15), gZ 13 false (bcZ 17 .sub 3 16 1 3), gZ 13 false (rZ 18 (.call ⟨(.value (.func (40 : Nat))), #[(tZ 14), (ciZ 0), (tZ 17)], #[3, 3, 3]⟩)), gZ 13 false (rZ 19 (.unOp .not 4 (tZ 18))), rZ 20 (.pick (tZ 13) (.const (.bool true)) (tZ 19))]
def R2_Bit_r2 : List SO := [rZ 6 (.assign (.const (.bool false)))]
def R2_Bit_r3 : List SO := [faZ 21 29 3 2, ldZ 22 22 21, mvZ 23 2, faZ 24 29 3 0, ldZ 25 3 24, bcZ 26 .add 3 25 7 3, bcZ 27 .quo 3 26 8 3, boZ 28 .mul 3 23 27 3, mvZ 29 1, bcZ 30 .quo 3 29 8 3, boZ 31 .add 3 28 30 3, iaZ 32 22 22 31, ldZ 33 5 32, mvZ 34 1, bcZ 35 .rem 3 34 8 3, boZ 36 .shl 5 33 35 3, rZ 37 (.binOp .and 5 (tZ 36) (.const (.int .u8 128)) 5), rZ 38 (.binOp .neq 5 (tZ 37) (.const (.int .u8 0)) 5), asZ 6 38]
def R2_Bit_c : SF := ⟨39, (.seq (.reg R2_Bit_r0)
  (.seq (.seq (.reg R2_Bit_r1)
  (.cond (tZ 20) (.seq (.reg R2_Bit_r2)
  .ret) .skip))
  (.seq (.reg R2_Bit_r3)
  .ret))), [.tmp 6]⟩
theorem R2_Bit_s : slimF Try.prog 13 = some R2_Bit_c := by kernel_rfl
/-- printworks/printworksref2.SameBytes -/
def R2_SameBytes_r0 : List SO := [rZ 4 (.assign (.const (.bool false)))]
def R2_SameBytes_r1 : List SO := [mvZ 5 0, rZ 6 (.convert 22 9 (tZ 5)), mvZ 7 1, rZ 8 (.convert 22 9 (tZ 7)), boZ 9 .eql 9 6 8 9, asZ 4 9]
def R2_SameBytes_c : SF := ⟨10, (.seq (.reg R2_SameBytes_r0)
  (.seq (.reg R2_SameBytes_r1)
  .ret)), [.tmp 4]⟩
theorem R2_SameBytes_s : slimF Try.prog 15 = some R2_SameBytes_c := by kernel_rfl
/-- printworks/printworksref2.Border -/
def R2_Border_r0 : List SO := [rZ 6 (.assign (ciZ 0))]
def R2_Border_r1 : List SO := [mvZ 8 1, bcZ 9 .eql 3 8 0 3, asZ 7 9]
def R2_Border_r2 : List SO := [mvZ 10 2, mvZ 11 0, bcZ 12 .sub 3 11 1 3, boZ 13 .eql 3 10 12 3, asZ 7 13]
def R2_Border_r3 : List SO := [rZ 6 (.assign (ciZ 1))]
def R2_Border_r4 : List SO := [mvZ 15 2, bcZ 16 .eql 3 15 0 3, asZ 14 16]
def R2_Border_r5 : List SO := [mvZ 17 1, bcZ 18 .rem 3 17 2 3, rZ 19 (.binOp .sub 3 (ciZ 1) (tZ 18) 3), asZ 6 19]
def R2_Border_r6 : List SO := [mvZ 21 1, mvZ 22 0, bcZ 23 .sub 3 22 1 3, boZ 24 .eql 3 21 23 3, asZ 20 24]
def R2_Border_r7 : List SO := [mvZ 25 0, bcZ 26 .sub 3 25 1 3, mvZ 27 2, boZ 28 .sub 3 26 27 3, bcZ 29 .rem 3 28 2 3, rZ 30 (.binOp .sub 3 (ciZ 1) (tZ 29) 3), asZ 6 30]
def R2_Border_r8 : List SO := [rZ 6 (.assign (ciZ 2))]
def R2_Border_c : SF := ⟨31, (.seq (.reg R2_Border_r0)
  (.seq (.block 0 (.seq (.seq (.reg R2_Border_r1)
  (.cond (tZ 7) .skip (.reg R2_Border_r2)))
  (.cond (tZ 7) (.seq (.reg R2_Border_r3)
  .ret) (.seq (.reg R2_Border_r4)
  (.cond (tZ 14) (.seq (.reg R2_Border_r5)
  .ret) (.seq (.reg R2_Border_r6)
  (.cond (tZ 20) (.seq (.reg R2_Border_r7)
  .ret) .skip)))))))
  (.seq (.reg R2_Border_r8)
  .ret))), [.tmp 6]⟩
theorem R2_Border_s : slimF Try.prog 19 = some R2_Border_c := by kernel_rfl
/-- printworks/printworksref2.Drawn -/
def R2_Drawn_r0 : List SO := [rZ 6 (.alloc 29)]
def R2_Drawn_r1 : List SO := [mvZ 11 0, bcZ 12 .add 3 11 7 3, bcZ 13 .quo 3 12 8 3, asZ 7 13]
def R2_Drawn_r2 : List SO := [mvZ 14 0, mvZ 15 1, mvZ 16 7, mvZ 17 1, boZ 18 .mul 3 16 17 3, rZ 19 (.makeSlice 22 (tZ 18) (tZ 18)), rZ 20 (.build 29 #[(0, (tZ 14)), (1, (tZ 15)), (2, (tZ 19))]), rZ 8 (.alloc 29), stZ 29 8 20]
def R2_Drawn_r3 : List SO := [mvZ 21 2, rZ 22 (.call ⟨(.builtin .len), #[(tZ 21)], #[41]⟩), rZ 23 (.move (ciZ 0))]
def R2_Drawn_r4 : List SO := [boZ 24 .lss 3 23 22 3]
def R2_Drawn_r5 : List SO := [mvZ 25 23, iaZ 26 41 21 23, ldZ 27 4 26, asZ 9 25, asZ 10 27]
def R2_Drawn_r6 : List SO := [mvZ 28 10]
def R2_Drawn_r7 : List SO := [faZ 29 29 8 2, ldZ 30 22 29, mvZ 31 9, mvZ 32 0, boZ 33 .quo 3 31 32 3, mvZ 34 7, boZ 35 .mul 3 33 34 3, mvZ 36 9, mvZ 37 0, boZ 38 .rem 3 36 37 3, bcZ 39 .quo 3 38 8 3, boZ 40 .add 3 35 39 3, iaZ 41 22 30 40, ldZ 42 5 41, mvZ 43 9, mvZ 44 0, boZ 45 .rem 3 43 44 3, bcZ 46 .rem 3 45 8 3, rZ 47 (.binOp .shr 5 (.const (.int .u8 128)) (tZ 46) 3), boZ 48 .or 5 42 47 5, iaZ 49 22 30 40, stZ 5 49 48]
def R2_Drawn_a7 : List (List Nat) := [[], [0], [], [], [2, 3], [], [4, 5], [], [], [7, 8], [9], [6, 10], [1, 11], [12], [], [], [14, 15], [16], [17], [13, 18], [1, 11, 0, 1, 2, 3, 4, 5, 6, 7, 8, 9, 10, 11, 12, 13, 14, 15, 16, 17, 18, 19], [20, 19, 0, 1, 2, 3, 4, 5, 6, 7, 8, 9, 10, 11, 12, 13, 14, 15, 16, 17, 18, 19]]
def R2_Drawn_r8 : List SO := [bcZ 50 .add 3 23 1 3, mvZ 23 50]
def R2_Drawn_r9 : List SO := [ldZ 51 29 8, stZ 29 6 51]
def R2_Drawn_c : SF := ⟨52, (.seq (.reg R2_Drawn_r0)
  (.seq (.reg R2_Drawn_r1)
  (.seq (.reg R2_Drawn_r2)
  (.seq (.seq (.reg R2_Drawn_r3)
  (.block 0 (.loop (.seq (.reg R2_Drawn_r4)
  (.seq (.cond (tZ 24) .skip (.exit 0))
  (.seq (.block 1 (.seq (.reg R2_Drawn_r5)
  (.seq (.reg R2_Drawn_r6)
  (.cond (tZ 28) (.regd R2_Drawn_r7 R2_Drawn_a7) .skip))))
  (.reg R2_Drawn_r8)))))))
  (.seq (.reg R2_Drawn_r9)
  .ret))))), [.cell 6 29]⟩
theorem R2_Drawn_s : slimF Try.prog 21 = some R2_Drawn_c := by kernel_rfl
/-- printworks/printworksref2.Floor -/
def R2_Floor_r0 : List SO := [rZ 4 (.assign (ciZ 0))]
def R2_Floor_r1 : List SO := [mvZ 6 0, mvZ 7 1, boZ 8 .quo 3 6 7 3, asZ 5 8]
def R2_Floor_r2 : List SO := [mvZ 9 5, mvZ 10 1, boZ 11 .mul 3 9 10 3, mvZ 12 0, boZ 13 .gtr 3 11 12 3]
def R2_Floor_r3 : List SO := [mvZ 14 5, bcZ 15 .sub 3 14 1 3, asZ 5 15]
def R2_Floor_r4 : List SO := [mvZ 16 5, asZ 4 16]
def R2_Floor_c : SF := ⟨17, (.seq (.reg R2_Floor_r0)
  (.seq (.reg R2_Floor_r1)
  (.seq (.seq (.reg R2_Floor_r2)
  (.cond (tZ 13) (.reg R2_Floor_r3) .skip))
  (.seq (.reg R2_Floor_r4)
  .ret)))), [.tmp 4]⟩
theorem R2_Floor_s : slimF Try.prog 34 = some R2_Floor_c := by kernel_rfl
abbrev R2_Floor_f : Nat := 34
/-- printworks/printworksref2.Within -/
def R2_Within_r0 : List SO := [rZ 6 (.assign (.const (.bool false)))]
def R2_Within_r1 : List SO := [mvZ 7 1, mvZ 8 0, boZ 9 .leq 3 7 8 3, mvZ 10 9, gZ 10 true (mvZ 11 0), gZ 10 true (mvZ 12 2), gZ 10 true (boZ 13 .leq 3 11 12 3), rZ 14 (.pick (tZ 10) (tZ 13) (.const (.bool false))), asZ 6 14]
def R2_Within_c : SF := ⟨15, (.seq (.reg R2_Within_r0)
  (.seq (.reg R2_Within_r1)
  .ret)), [.tmp 6]⟩
theorem R2_Within_s : slimF Try.prog 40 = some R2_Within_c := by kernel_rfl
def tbl_R2 : List (Nat × SF) := [(9, R2_Mod_c), (13, R2_Bit_c), (15, R2_SameBytes_c), (19, R2_Border_c), (21, R2_Drawn_c), (34, R2_Floor_c), (40, R2_Within_c)]
theorem tbl_R2_ok : okT Try.prog tbl_R2 := ⟨R2_Mod_s, R2_Bit_s, R2_SameBytes_s, R2_Border_s, R2_Drawn_s, R2_Floor_s, R2_Within_s, trivial⟩

end Go.Proofs.Ythkilkjngincpaa
namespace Go.Proofs.Ythkilkjngincpaa
open Go Go.Lite
set_option linter.unusedVariables false

/-- printworks/printworkskeep2.StripDrawn -/
def K2_StripDrawn_r0 : List SO := [rZ 8 (.assign (.const (.bool false)))]
def K2_StripDrawn_r1 : List SO := [rZ 26 (.call ⟨(.value (.func (29 : Nat))), #[], #[]⟩), rZ 27 (.unOp .not 4 (tZ 26))]
def K2_StripDrawn_r2 : List SO := [rZ 8 (.assign (.const (.bool false)))]
def K2_StripDrawn_r3 : List SO := [mvZ 28 0, rZ 29 (.call ⟨(.value (.func (9 : Nat))), #[(tZ 28), (ciZ 8)], #[3, 3]⟩), rZ 30 (.binOp .add 3 (ciZ 1) (tZ 29) 3), mvZ 31 1, rZ 32 (.call ⟨(.value (.func (9 : Nat))), #[(tZ 31), (ciZ 16)], #[3, 3]⟩), rZ 33 (.binOp .add 3 (ciZ 1) (tZ 32) 3), mvZ 34 2, rZ 35 (.call ⟨(.value (.func (9 : Nat))), #[(tZ 34), (ciZ 400)], #[3, 3]⟩), rZ 36 (.binOp .add 3 (ciZ 1) (tZ 35) 3), mvZ 37 3, rZ 38 (.call ⟨(.value (.func (9 : Nat))), #[(tZ 37), (ciZ 3)], #[3, 3]⟩), rZ 39 (.binOp .add 3 (ciZ 1) (tZ 38) 3), asZ 0 30, asZ 1 33, asZ 2 36, asZ 3 39]
def K2_StripDrawn_r4 : List SO := [mvZ 41 0, mvZ 42 1, mvZ 43 2, rZ 44 (.call ⟨(.value (.func (30 : Nat))), #[(tZ 41), (tZ 42), (tZ 43)], #[3, 3, 3]⟩), mvZ 40 44, exZ 45 40 0, exZ 46 40 1, asZ 9 45, asZ 10 46]
def K2_StripDrawn_r5 : List SO := [mvZ 47 10, bcZ 48 .neq 25 47 0 25]
def K2_StripDrawn_r6 : List SO := [mvZ 49 10, bcZ 50 .eql 25 49 19 25, mvZ 51 50, gZ 51 true (mvZ 52 9), gZ 51 true (rZ 53 (.call ⟨(.builtin .len), #[(tZ 52)], #[61]⟩)), gZ 51 true (bcZ 54 .eql 3 53 0 3), rZ 55 (.pick (tZ 51) (tZ 54) (.const (.bool false))), mvZ 56 55, gZ 56 true (mvZ 57 2), gZ 56 true (mvZ 58 1), gZ 56 true (boZ 59 .quo 3 57 58 3), gZ 56 true (mvZ 60 0), gZ 56 true (rZ 61 (.binOp .mul 3 (ciZ 4) (tZ 60) 3)), gZ 56 true (boZ 62 .lss 3 59 61 3), rZ 63 (.pick (tZ 56) (tZ 62) (.const (.bool false))), asZ 8 63]
def K2_StripDrawn_r7 : List SO := [mvZ 65 9, mvZ 66 0, mvZ 67 2, mvZ 68 3, rZ 69 (.call ⟨(.value (.func (31 : Nat))), #[(tZ 65), (tZ 66), (tZ 67), (tZ 68)], #[61, 3, 3, 3]⟩), mvZ 64 69, exZ 70 64 0, exZ 71 64 1, asZ 11 70, asZ 12 71]
def K2_StripDrawn_r8 : List SO := [mvZ 72 12, bcZ 73 .neq 25 72 0 25, mvZ 74 73, gZ 74 false (mvZ 75 11), gZ 74 false (rZ 76 (.call ⟨(.builtin .len), #[(tZ 75)], #[64]⟩)), gZ 74 false (mvZ 77 0), gZ 74 false (boZ 78 .neq 3 76 77 3), rZ 79 (.pick (tZ 74) (.const (.bool true)) (tZ 78))]
def K2_StripDrawn_r9 : List SO := [rZ 8 (.assign (.const (.bool false)))]
def K2_StripDrawn_r10 : List SO := [rZ 13 (.assign (.const (.slice none 0 0))), rZ 14 (.assign (.const (.slice none 0 0)))]
def K2_StripDrawn_r11 : List SO := [mvZ 80 11, rZ 81 (.call ⟨(.builtin .len), #[(tZ 80)], #[64]⟩), rZ 82 (.move (ciZ 0))]
def K2_StripDrawn_r12 : List SO := [boZ 83 .lss 3 82 81 3]
def K2_StripDrawn_r13 : List SO := [iaZ 84 64 80 82, ldZ 85 68 84, rZ 16 (.alloc 68), stZ 68 16 85]
def K2_StripDrawn_r14 : List SO := [ldZ 87 68 16, rZ 88 (.call ⟨(.value (.func (32 : Nat))), #[(tZ 87), (ciZ 129)], #[68, 3]⟩), mvZ 86 88, exZ 89 86 0, exZ 90 86 1, rZ 17 (.alloc 29), stZ 29 17 89, asZ 18 90]
def K2_StripDrawn_r15 : List SO := [ldZ 92 68 16, rZ 93 (.call ⟨(.value (.func (32 : Nat))), #[(tZ 92), (ciZ 128)], #[68, 3]⟩), mvZ 91 93, exZ 94 91 0, exZ 95 91 1, rZ 19 (.alloc 29), stZ 29 19 94, asZ 20 95]
def K2_StripDrawn_r16 : List SO := [mvZ 96 18, bcZ 97 .neq 25 96 0 25, mvZ 98 97, gZ 98 false (mvZ 99 20), gZ 98 false (bcZ 100 .neq 25 99 0 25), rZ 101 (.pick (tZ 98) (.const (.bool true)) (tZ 100))]
def K2_StripDrawn_r17 : List SO := [rZ 8 (.assign (.const (.bool false)))]
def K2_StripDrawn_r18 : List SO := [mvZ 102 13, ldZ 103 29 17, rZ 104 (.buildSlice 67 1 #[(0, (tZ 103))]), rZ 105 (.call ⟨(.builtin .append), #[(tZ 102), (tZ 104)], #[67, 67]⟩), mvZ 106 14, ldZ 107 29 19, rZ 108 (.buildSlice 67 1 #[(0, (tZ 107))]), rZ 109 (.call ⟨(.builtin .append), #[(tZ 106), (tZ 108)], #[67, 67]⟩), asZ 13 105, asZ 14 109]
def K2_StripDrawn_a18 : List (List Nat) := [[], [], [1], [0, 2], [], [], [5], [4, 6, 3], [3, 7, 0, 1, 2, 3], [7, 8, 0, 1, 2, 3, 4, 5, 6, 7, 8]]
def K2_StripDrawn_r19 : List SO := [bcZ 110 .add 3 82 1 3, mvZ 82 110]
def K2_StripDrawn_r20 : List SO := [mvZ 112 9, mvZ 113 13, rZ 114 (.call ⟨(.value (.func (33 : Nat))), #[(tZ 112), (tZ 113)], #[61, 67]⟩), mvZ 111 114, exZ 115 111 0, exZ 116 111 1, asZ 21 115, asZ 22 116]
def K2_StripDrawn_r21 : List SO := [mvZ 118 9, mvZ 119 14, rZ 120 (.call ⟨(.value (.func (33 : Nat))), #[(tZ 118), (tZ 119)], #[61, 67]⟩), mvZ 117 120, exZ 121 117 0, exZ 122 117 1, asZ 23 121, asZ 24 122]
def K2_StripDrawn_r22 : List SO := [mvZ 123 22, bcZ 124 .neq 25 123 0 25, mvZ 125 124, gZ 125 false (mvZ 126 24), gZ 125 false (bcZ 127 .neq 25 126 0 25), rZ 128 (.pick (tZ 125) (.const (.bool true)) (tZ 127)), mvZ 129 128, gZ 129 false (mvZ 130 21), gZ 129 false (rZ 131 (.call ⟨(.builtin .len), #[(tZ 130)], #[70]⟩)), gZ 129 false (mvZ 132 0), gZ 129 false (mvZ 133 1), gZ 129 false (boZ 134 .mul 3 132 133 3), gZ 129 false (boZ 135 .neq 3 131 134 3), rZ 136 (.pick (tZ 129) (.const (.bool true)) (tZ 135)), mvZ 137 136, gZ 137 false (mvZ 138 23), gZ 137 false (rZ 139 (.call ⟨(.builtin .len), #[(tZ 138)], #[70]⟩)), gZ 137 false (mvZ 140 0), gZ 137 false (mvZ 141 1), gZ 137 false (boZ 142 .mul 3 140 141 3), gZ 137 false (boZ 143 .neq 3 139 142 3), rZ 144 (.pick (tZ 137) (.const (.bool true)) (tZ 143))]
def K2_StripDrawn_r23 : List SO := [rZ 8 (.assign (.const (.bool false)))]
def K2_StripDrawn_r24 : List SO := [mvZ 145 21, rZ 146 (.call ⟨(.builtin .len), #[(tZ 145)], #[70]⟩), rZ 147 (.move (ciZ 0))]
def K2_StripDrawn_r25 : List SO := [boZ 148 .lss 3 147 146 3]
def K2_StripDrawn_r26 : List SO := [mvZ 149 147, asZ 25 149]
def K2_StripDrawn_r27 : List SO := [mvZ 150 21, mvZ 151 25, iaZ 152 70 150 151, ldZ 153 74 152, mvZ 154 25, mvZ 155 0, boZ 156 .rem 3 154 155 3, mvZ 157 25, mvZ 158 0, boZ 159 .quo 3 157 158 3, rZ 160 (.build 74 #[(0, (tZ 156)), (1, (tZ 159)), (2, (ciZ 255))]), boZ 161 .neq 74 153 160 74, mvZ 162 161, gZ 162 false (mvZ 163 23), gZ 162 false (mvZ 164 25), gZ 162 false (iaZ 165 70 163 164), gZ 162 false (ldZ 166 74 165), gZ 162 false (mvZ 167 25), gZ 162 false (mvZ 168 0), gZ 162 false (boZ 169 .rem 3 167 168 3), gZ 162 false (mvZ 170 25), gZ 162 false (mvZ 171 0), gZ 162 false (boZ 172 .quo 3 170 171 3), gZ 162 false (rZ 173 (.build 74 #[(0, (tZ 169)), (1, (tZ 172)), (2, (ciZ 255)), (3, (ciZ 255))])), gZ 162 false (boZ 174 .neq 74 166 173 74), rZ 175 (.pick (tZ 162) (.const (.bool true)) (tZ 174))]
def K2_StripDrawn_a27 : List (List Nat) := [[], [], [0, 1], [2], [], [], [4, 5], [], [], [7, 8], [6, 9], [3, 10], [11], [12], [12], [13, 14, 12], [15, 12], [12], [12], [17, 18, 12], [12], [12], [20, 21, 12], [19, 22, 12], [16, 23, 12], [12, 24]]
def K2_StripDrawn_r28 : List SO := [rZ 8 (.assign (.const (.bool false)))]
def K2_StripDrawn_r29 : List SO := [bcZ 176 .add 3 147 1 3, mvZ 147 176]
def K2_StripDrawn_r30 : List SO := [rZ 8 (.assign (.const (.bool true)))]
def K2_StripDrawn_c : SF := ⟨177, (.seq (.reg K2_StripDrawn_r0)
  (.seq (.seq (.reg K2_StripDrawn_r1)
  (.cond (tZ 27) (.seq (.reg K2_StripDrawn_r2)
  .ret) .skip))
  (.seq (.reg K2_StripDrawn_r3)
  (.seq (.reg K2_StripDrawn_r4)
  (.seq (.seq (.reg K2_StripDrawn_r5)
  (.cond (tZ 48) (.seq (.reg K2_StripDrawn_r6)
  .ret) .skip))
  (.seq (.reg K2_StripDrawn_r7)
  (.seq (.seq (.reg K2_StripDrawn_r8)
  (.cond (tZ 79) (.seq (.reg K2_StripDrawn_r9)
  .ret) .skip))
  (.seq (.reg K2_StripDrawn_r10)
  (.seq (.seq (.reg K2_StripDrawn_r11)
  (.block 0 (.loop (.seq (.reg K2_StripDrawn_r12)
  (.seq (.cond (tZ 83) .skip (.exit 0))
  (.seq (.block 1 (.seq (.reg K2_StripDrawn_r13)
  (.seq (.reg K2_StripDrawn_r14)
  (.seq (.reg K2_StripDrawn_r15)
  (.seq (.seq (.reg K2_StripDrawn_r16)
  (.cond (tZ 101) (.seq (.reg K2_StripDrawn_r17)
  .ret) .skip))
  (.regd K2_StripDrawn_r18 K2_StripDrawn_a18))))))
  (.reg K2_StripDrawn_r19)))))))
  (.seq (.reg K2_StripDrawn_r20)
  (.seq (.reg K2_StripDrawn_r21)
  (.seq (.seq (.reg K2_StripDrawn_r22)
  (.cond (tZ 144) (.seq (.reg K2_StripDrawn_r23)
  .ret) .skip))
  (.seq (.seq (.reg K2_StripDrawn_r24)
  (.block 2 (.loop (.seq (.reg K2_StripDrawn_r25)
  (.seq (.cond (tZ 148) .skip (.exit 2))
  (.seq (.block 3 (.seq (.reg K2_StripDrawn_r26)
  (.seq (.regd K2_StripDrawn_r27 K2_StripDrawn_a27)
  (.cond (tZ 175) (.seq (.reg K2_StripDrawn_r28)
  .ret) .skip))))
  (.reg K2_StripDrawn_r29)))))))
  (.seq (.reg K2_StripDrawn_r30)
  .ret)))))))))))))), [.tmp 8]⟩
theorem K2_StripDrawn_s : slimF Try.prog 7 = some K2_StripDrawn_c := by kernel_rfl
abbrev K2_StripDrawn_f : Nat := 7

end Go.Proofs.Ythkilkjngincpaa
