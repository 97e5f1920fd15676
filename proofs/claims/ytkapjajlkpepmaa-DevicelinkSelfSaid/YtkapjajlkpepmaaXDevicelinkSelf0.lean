/- Printed by program: the functions' code in few words; the kernel checks it against the translation. -/
import Derived.Test.YtkapjajlkpepmaaRows
import Derived.Test.YtkapjajlkpepmaaLiteTP
namespace Go.Proofs.Ytkapjajlkpepmaa
open Go Go.Lite
set_option linter.unusedVariables false

/-- Int -/
abbrev Ei : Nat := 0
/-- ByteArray -/
abbrev Es : Nat := 1
/-- Int × Int -/
abbrev E2i : Nat := 2
/-- List (Int × Int) -/
abbrev EL2iJ : Nat := 3
@[reducible] def A (e : Nat) : Type := match e with
  | 0 => Int
  | 1 => ByteArray
  | 2 => Int × Int
  | 3 => List (Int × Int)
  | _ => Unit
def eSz (e : Nat) : Nat := match e with
  | 0 => 1
  | 1 => 1
  | 2 => 2
  | 3 => 1
  | _ => 1
def eD (e : Nat) : A e := match e with
  | 0 => (0 : Int)
  | 1 => (⟨#[]⟩ : ByteArray)
  | 2 => ((0 : Int), (0 : Int))
  | 3 => ([] : List (Int × Int))
  | _ + 4 => ()
def encL0 (x : Int) : List LV := [.int .i64 (x)]
def enc0 (x : Int) : List (TV A) := [.int .i64 (x)]
def dec0 (cs : List (TV A)) : Option (Int) := match cs with
  | [.int .i64 x0] => some x0
  | _ => none
def encL1 (x : ByteArray) : List LV := [.str (x)]
def enc1 (x : ByteArray) : List (TV A) := [.str (x)]
def dec1 (cs : List (TV A)) : Option (ByteArray) := match cs with
  | [.str x0] => some x0
  | _ => none
def encL2 (x : Int × Int) : List LV := [.int .i64 (x.1), .int .i64 (x.2)]
def enc2 (x : Int × Int) : List (TV A) := [.int .i64 (x.1), .int .i64 (x.2)]
def dec2 (cs : List (TV A)) : Option (Int × Int) := match cs with
  | [.int .i64 x0, .int .i64 x1] => some (x0, x1)
  | _ => none
def encL3 (x : List (Int × Int)) : List LV := [.ps 2 (List.length (x)) (List.flatMap encL2 (x))]
def enc3 (x : List (Int × Int)) : List (TV A) := [.lst 2 (x)]
def dec3 (cs : List (TV A)) : Option (List (Int × Int)) := match cs with
  | [.lst 2 x0] => some x0
  | _ => none
def eEncL (e : Nat) (a : A e) : List LV := match e, a with
  | 0, a => encL0 a
  | 1, a => encL1 a
  | 2, a => encL2 a
  | 3, a => encL3 a
  | _ + 4, _ => [.nilp]
def eEnc (e : Nat) (a : A e) : List (TV A) := match e, a with
  | 0, a => enc0 a
  | 1, a => enc1 a
  | 2, a => enc2 a
  | 3, a => enc3 a
  | _ + 4, _ => [.nilp]
def eDec (e : Nat) (cs : List (TV A)) : Option (A e) := match e with
  | 0 => dec0 cs
  | 1 => dec1 cs
  | 2 => dec2 cs
  | 3 => dec3 cs
  | _ + 4 => none
def eEl (t : Nat) : Option Nat := match t with
  | 24 => some 0
  | 22 => some 1
  | 23 => some 3
  | 80 => some 2
  | 96 => some 0
  | 94 => some 0
  | 93 => some 0
  | _ => none
def fl (e : Nat) : Bool := match e with
  | 0 => true
  | 1 => true
  | 2 => true
  | 3 => false
  | _ => false
def eByt (e : Nat) : Option (List (A e) → List Int) := match e with
  | _ => none
def R : Reg A := ⟨eSz, eD, eEncL, eEnc, eDec, eEl, eByt⟩
theorem R_ok : R.Ok where
  pos e := by show 0 < eSz e; unfold eSz; split <;> decide
  len e a := match e, a with
    | 0, a => rfl
    | 1, a => rfl
    | 2, a => rfl
    | 3, a => rfl
    | e + 4, a => rfl
  ok e a := match e, a with
    | 0, a => rfl
    | 1, a => rfl
    | 2, a => rfl
    | 3, a => rfl
    | e + 4, a => rfl
  dec e cs a h := match e, a, h with
    | 0, a, h => by
      replace h : dec0 cs = some a := h
      unfold dec0 at h
      split at h
      · cases h; rfl
      · cases h
    | 1, a, h => by
      replace h : dec1 cs = some a := h
      unfold dec1 at h
      split at h
      · cases h; rfl
      · cases h
    | 2, a, h => by
      replace h : dec2 cs = some a := h
      unfold dec2 at h
      split at h
      · cases h; rfl
      · cases h
    | 3, a, h => by
      replace h : dec3 cs = some a := h
      unfold dec3 at h
      split at h
      · cases h; rfl
      · cases h
    | e + 4, a, h => by cases h
  free e a := match e, a with
    | 0, a => rfl
    | 1, a => rfl
    | 2, a => rfl
    | 3, a => rfl
    | e + 4, a => rfl
  sol e a := match e, a with
    | 0, a => rfl
    | 1, a => rfl
    | 2, a => rfl
    | 3, a => rfl
    | e + 4, a => rfl
  byt e f h xs := match e, f, h with
    | 0, f, h => by cases h
    | 1, f, h => by cases h
    | 2, f, h => by cases h
    | 3, f, h => by cases h
    | e + 4, f, h => by cases h
theorem fl_ok : ∀ e, fl e = true → ∀ a, psfreeL (R.encL e a) = true := fun e h a => match e, h, a with
  | 0, h, a => rfl
  | 1, h, a => rfl
  | 2, h, a => rfl
  | 3, h, a => by cases h
  | e + 4, h, a => rfl

def tyL : List (Nat × TI) := [(0, ⟨.other, 1, false, [.dead]⟩),
  (28, ⟨.struct [(0, 1, false), (1, 1, false), (2, 1, false), (3, 4, true)], 7, true, [.str ⟨([] : List UInt8).toArray⟩, .nils, .nils, .int .i64 0, .int .i64 0, .int .i64 0, .nils]⟩),
  (32, ⟨.struct [(0, 3, true), (3, 1, false), (4, 1, false), (5, 1, false), (6, 1, false)], 7, true, [.int .i64 0, .int .i64 0, .int .i64 0, .int .i64 0, .int .i64 0, .nils, .nils]⟩),
  (34, ⟨.int .i64, 1, false, [.int .i64 0]⟩),
  (24, ⟨.slice 1 8 [.int .i64 0], 1, false, [.nils]⟩),
  (3, ⟨.int .i64, 1, false, [.int .i64 0]⟩),
  (30, ⟨.struct [(0, 1, false), (1, 1, false), (2, 1, false)], 3, true, [.int .i64 0, .int .i64 0, .int .i64 0]⟩),
  (22, ⟨.slice 1 16 [.str ⟨([] : List UInt8).toArray⟩], 1, false, [.nils]⟩),
  (44, ⟨.struct [(0, 1, false), (1, 1, false), (2, 1, false), (3, 1, false), (4, 3, true)], 7, true, [.int .i64 0, .int .i64 0, .int .i64 0, .bool false, .int .i64 0, .int .i64 0, .int .i64 0]⟩),
  (26, ⟨.struct [(0, 1, false), (1, 1, false), (2, 1, false), (3, 1, false)], 4, true, [.int .i64 0, .int .i64 0, .int .i64 0, .nils]⟩),
  (4, ⟨.bool, 1, false, [.bool false]⟩),
  (59, ⟨.other, 1, false, [.nilp]⟩),
  (60, ⟨.other, 1, false, [.nilp]⟩),
  (70, ⟨.other, 1, false, [.nilp]⟩),
  (74, ⟨.other, 1, false, [.nilf]⟩),
  (77, ⟨.other, 1, false, [.nilp]⟩),
  (23, ⟨.slice 1 24 [.nils], 1, false, [.nils]⟩),
  (9, ⟨.str, 1, false, [.str ⟨([] : List UInt8).toArray⟩]⟩),
  (82, ⟨.struct [(0, 1, false)], 1, true, [.nils]⟩),
  (89, ⟨.struct [(0, 1, false), (1, 1, false), (2, 1, false), (3, 1, false), (4, 1, false), (5, 1, false), (6, 1, false), (7, 1, false)], 8, true, [.nilp, .nilp, .nils, .int .i64 0, .nils, .nils, .nils, .nils]⟩),
  (87, ⟨.other, 1, false, [.nilp]⟩),
  (102, ⟨.other, 1, false, [.nilf]⟩),
  (105, ⟨.struct [(0, 1, false), (1, 1, false)], 2, true, [.int .i64 0, .int .i64 0]⟩),
  (80, ⟨.slice 2 16 [.int .i64 0, .int .i64 0], 1, false, [.nils]⟩),
  (5, ⟨.int .u8, 1, false, [.int .u8 0]⟩),
  (96, ⟨.arr 4 1 false, 4, true, [.int .i64 0, .int .i64 0, .int .i64 0, .int .i64 0]⟩),
  (95, ⟨.arr 4 3 true, 12, true, [.int .i64 0, .int .i64 0, .int .i64 0, .int .i64 0, .int .i64 0, .int .i64 0, .int .i64 0, .int .i64 0, .int .i64 0, .int .i64 0, .int .i64 0, .int .i64 0]⟩),
  (94, ⟨.arr 3 1 false, 3, true, [.int .i64 0, .int .i64 0, .int .i64 0]⟩),
  (111, ⟨.other, 1, false, [.nilf]⟩),
  (93, ⟨.arr 3 1 false, 3, true, [.int .i64 0, .int .i64 0, .int .i64 0]⟩),
  (116, ⟨.other, 1, false, [.nilf]⟩)]
theorem tyL_ok : okL (tiOf Try.prog) tyL := ⟨by kernel_rfl, by kernel_rfl, by kernel_rfl, by kernel_rfl, by kernel_rfl, by kernel_rfl, by kernel_rfl, by kernel_rfl, by kernel_rfl, by kernel_rfl, by kernel_rfl, by kernel_rfl, by kernel_rfl, by kernel_rfl, by kernel_rfl, by kernel_rfl, by kernel_rfl, by kernel_rfl, by kernel_rfl, by kernel_rfl, by kernel_rfl, by kernel_rfl, by kernel_rfl, by kernel_rfl, by kernel_rfl, by kernel_rfl, by kernel_rfl, by kernel_rfl, by kernel_rfl, by kernel_rfl, by kernel_rfl, trivial⟩
def eqL : List (Nat × List Nat) := [(30, [0, 0, 0])]
theorem eqL_ok : okL (eqOf Try.prog) eqL := ⟨by kernel_rfl, trivial⟩
def nlL : List (Nat × Nat) := [(34, 0), (3, 0), (30, 0), (4, 0), (24, 4), (5, 0), (9, 0)]
theorem nlL_ok : okN (nilOf Try.prog) nlL := ⟨by kernel_rfl, by kernel_rfl, by kernel_rfl, by kernel_rfl, by kernel_rfl, by kernel_rfl, by kernel_rfl, trivial⟩
noncomputable def ty : TT := ⟨lookT tyL (tiOf Try.prog), lookT eqL (eqOf Try.prog), lookN nlL (nilOf Try.prog)⟩
theorem ty_ok : ty = ttOf Try.prog := by
  unfold ty ttOf
  rw [lookT_eq tyL_ok, lookT_eq eqL_ok, lookN_eq nlL_ok]
def Wi (x : Int) : Prop := rng .i64 x
def Ws (x : ByteArray) : Prop := ByteArray.size x ≤ 9223372036854775807
def W2i (x : Int × Int) : Prop := rng .i64 x.1 ∧ rng .i64 x.2
def WL2iJ (x : List (Int × Int)) : Prop := (List.length x ≤ 9223372036854775807 ∧ ∀ y ∈ x, W2i y)
theorem rdi : R.d Ei = (0 : Int) := rfl
theorem rd2i : R.d E2i = ((0 : Int), (0 : Int)) := rfl
theorem rdL2iJ : R.d EL2iJ = ([] : List (Int × Int)) := rfl
theorem env : Env A R Try.prog ty fl := ⟨R_ok, ty_ok, fl_ok, by kernel_rfl⟩

abbrev tZ (a : Nat) : Operand := .tmp a
abbrev ciZ (k : Int) : Operand := .const (.int .i64 k)
abbrev mvZ (d a : Nat) : SO := ⟨some d, .move (.tmp a), none⟩
abbrev ldZ (d t a : Nat) : SO := ⟨some d, .load t (.tmp a), none⟩
abbrev faZ (d t a i : Nat) : SO := ⟨some d, .fieldAddr t (.tmp a) i, none⟩
abbrev iaZ (d t a b : Nat) : SO := ⟨some d, .indexAddr t (.tmp a) (.tmp b), none⟩
abbrev asZ (d a : Nat) : SO := ⟨some d, .assign (.tmp a), none⟩
abbrev exZ (d a i : Nat) : SO := ⟨some d, .extract (.tmp a) i, none⟩
abbrev boZ (d : Nat) (o : BinOp) (t a b r : Nat) : SO := ⟨some d, .binOp o t (.tmp a) (.tmp b) r, none⟩
abbrev bcZ (d : Nat) (o : BinOp) (t a : Nat) (k : Int) (r : Nat) : SO := ⟨some d, .binOp o t (.tmp a) (.const (.int .i64 k)) r, none⟩
abbrev stZ (t a b : Nat) : SO := ⟨none, .store t (.tmp a) (.tmp b), none⟩
abbrev gZ (g : Nat) (b : Bool) (s : SO) : SO := ⟨s.dst, s.op, some (g, b)⟩
abbrev rZ (d : Nat) (o : Op) : SO := ⟨some d, o, none⟩

end Go.Proofs.Ytkapjajlkpepmaa
namespace Go.Proofs.Ytkapjajlkpepmaa
open Go Go.Lite
set_option linter.unusedVariables false

/-- printworks/curve.Check -/
def curve_Check_r0 : List SO := [rZ 1 (.box 82 (tZ 0)), rZ 2 (.assign (ciZ 0))]
def curve_Check_r1 : List SO := [faZ 6 82 1 0, ldZ 7 80 6, rZ 8 (.call ⟨(.builtin .len), #[(tZ 7)], #[80]⟩), asZ 3 8]
def curve_Check_r2 : List SO := [mvZ 10 3, bcZ 11 .gtr 3 10 33 3, asZ 9 11]
def curve_Check_r3 : List SO := [rZ 2 (.assign (ciZ 2))]
def curve_Check_r4 : List SO := [mvZ 13 3, bcZ 14 .lss 3 13 2 3, asZ 12 14]
def curve_Check_r5 : List SO := [rZ 2 (.assign (ciZ 1))]
def curve_Check_r6 : List SO := [faZ 15 82 1 0, ldZ 16 80 15, rZ 17 (.call ⟨(.builtin .len), #[(tZ 16)], #[80]⟩), rZ 18 (.move (ciZ 0))]
def curve_Check_r7 : List SO := [boZ 19 .lss 3 18 17 3]
def curve_Check_r8 : List SO := [mvZ 20 18, iaZ 21 80 16 18, ldZ 22 105 21, rZ 5 (.alloc 105), asZ 4 20, stZ 105 5 22]
def curve_Check_r9 : List SO := [faZ 23 105 5 0, ldZ 24 3 23, bcZ 25 .lss 3 24 0 3, mvZ 26 25, gZ 26 false (faZ 27 105 5 0), gZ 26 false (ldZ 28 3 27), gZ 26 false (bcZ 29 .gtr 3 28 65280 3), rZ 30 (.pick (tZ 26) (.const (.bool true)) (tZ 29)), mvZ 31 30, gZ 31 false (faZ 32 105 5 1), gZ 31 false (ldZ 33 3 32), gZ 31 false (bcZ 34 .lss 3 33 0 3), rZ 35 (.pick (tZ 31) (.const (.bool true)) (tZ 34)), mvZ 36 35, gZ 36 false (faZ 37 105 5 1), gZ 36 false (ldZ 38 3 37), gZ 36 false (bcZ 39 .gtr 3 38 65280 3), rZ 40 (.pick (tZ 36) (.const (.bool true)) (tZ 39))]
def curve_Check_r10 : List SO := [rZ 2 (.assign (ciZ 3))]
def curve_Check_r11 : List SO := [mvZ 41 4, bcZ 42 .gtr 3 41 0 3, mvZ 43 42, gZ 43 true (faZ 44 105 5 0), gZ 43 true (ldZ 45 3 44), gZ 43 true (faZ 46 82 1 0), gZ 43 true (ldZ 47 80 46), gZ 43 true (mvZ 48 4), gZ 43 true (bcZ 49 .sub 3 48 1 3), gZ 43 true (iaZ 50 80 47 49), gZ 43 true (faZ 51 105 50 0), gZ 43 true (ldZ 52 3 51), gZ 43 true (boZ 53 .leq 3 45 52 3), gZ 43 true (mvZ 54 53), gZ 54 false (faZ 55 105 5 1), gZ 54 false (ldZ 56 3 55), gZ 54 false (faZ 57 82 1 0), gZ 54 false (ldZ 58 80 57), gZ 54 false (mvZ 59 4), gZ 54 false (bcZ 60 .sub 3 59 1 3), gZ 54 false (iaZ 61 80 58 60), gZ 54 false (faZ 62 105 61 1), gZ 54 false (ldZ 63 3 62), gZ 54 false (boZ 64 .lss 3 56 63 3), gZ 43 true (rZ 65 (.pick (tZ 54) (.const (.bool true)) (tZ 64))), rZ 66 (.pick (tZ 43) (tZ 65) (.const (.bool false)))]
def curve_Check_a11 : List (List Nat) := [[], [0], [1], [2], [3, 2], [2], [5, 2], [2], [7, 2], [6, 8, 2], [9, 2], [10, 2], [4, 11, 2], [12, 2, 2], [13], [14, 13], [13], [16, 13], [13], [18, 13], [17, 19, 13], [20, 13], [21, 13], [15, 22, 13], [13, 23, 2], [2, 24]]
def curve_Check_r12 : List SO := [rZ 2 (.assign (ciZ 18))]
def curve_Check_r13 : List SO := [bcZ 67 .add 3 18 1 3, mvZ 18 67]
def curve_Check_r14 : List SO := [faZ 68 82 1 0, ldZ 69 80 68, rZ 70 (.indexAddr 80 (tZ 69) (ciZ 0)), faZ 71 105 70 0, ldZ 72 3 71, bcZ 73 .neq 3 72 0 3, mvZ 74 73, gZ 74 false (faZ 75 82 1 0), gZ 74 false (ldZ 76 80 75), gZ 74 false (faZ 77 82 1 0), gZ 74 false (ldZ 78 80 77), gZ 74 false (rZ 79 (.call ⟨(.builtin .len), #[(tZ 78)], #[80]⟩)), gZ 74 false (bcZ 80 .sub 3 79 1 3), gZ 74 false (iaZ 81 80 76 80), gZ 74 false (faZ 82 105 81 0), gZ 74 false (ldZ 83 3 82), gZ 74 false (bcZ 84 .neq 3 83 65280 3), rZ 85 (.pick (tZ 74) (.const (.bool true)) (tZ 84))]
def curve_Check_r15 : List SO := [rZ 2 (.assign (ciZ 4))]
def curve_Check_r16 : List SO := [rZ 2 (.assign (ciZ 0))]
def curve_Check_c : SF := ⟨86, (.seq (.reg curve_Check_r0)
  (.seq (.seq (.reg curve_Check_r1)
  (.block 0 (.seq (.reg curve_Check_r2)
  (.cond (tZ 9) (.seq (.reg curve_Check_r3)
  .ret) (.seq (.reg curve_Check_r4)
  (.cond (tZ 12) (.seq (.reg curve_Check_r5)
  .ret) .skip))))))
  (.seq (.seq (.reg curve_Check_r6)
  (.block 1 (.loop (.seq (.reg curve_Check_r7)
  (.seq (.cond (tZ 19) .skip (.exit 1))
  (.seq (.block 2 (.seq (.reg curve_Check_r8)
  (.seq (.seq (.reg curve_Check_r9)
  (.cond (tZ 40) (.seq (.reg curve_Check_r10)
  .ret) .skip))
  (.seq (.regd curve_Check_r11 curve_Check_a11)
  (.cond (tZ 66) (.seq (.reg curve_Check_r12)
  .ret) .skip)))))
  (.reg curve_Check_r13)))))))
  (.seq (.seq (.reg curve_Check_r14)
  (.cond (tZ 85) (.seq (.reg curve_Check_r15)
  .ret) .skip))
  (.seq (.reg curve_Check_r16)
  .ret))))), [.tmp 2]⟩
theorem curve_Check_s : slimF Try.prog 43 = some curve_Check_c := by kernel_rfl
abbrev curve_Check_f : Nat := 43
/-- printworks/curve.Nearest -/
def curve_Nearest_r0 : List SO := [rZ 4 (.assign (ciZ 0))]
def curve_Nearest_r1 : List SO := [mvZ 6 0, rZ 7 (.binOp .mul 3 (ciZ 2) (tZ 6) 3), mvZ 8 1, boZ 9 .add 3 7 8 3, mvZ 10 1, rZ 11 (.binOp .mul 3 (ciZ 2) (tZ 10) 3), asZ 0 9, asZ 1 11]
def curve_Nearest_r2 : List SO := [mvZ 12 0, mvZ 13 1, boZ 14 .quo 3 12 13 3, asZ 5 14]
def curve_Nearest_r3 : List SO := [mvZ 15 0, mvZ 16 1, boZ 17 .rem 3 15 16 3, bcZ 18 .lss 3 17 0 3]
def curve_Nearest_r4 : List SO := [mvZ 19 5, bcZ 20 .sub 3 19 1 3, asZ 5 20]
def curve_Nearest_r5 : List SO := [mvZ 21 5, asZ 4 21]
def curve_Nearest_c : SF := ⟨22, (.seq (.reg curve_Nearest_r0)
  (.seq (.reg curve_Nearest_r1)
  (.seq (.reg curve_Nearest_r2)
  (.seq (.seq (.reg curve_Nearest_r3)
  (.cond (tZ 18) (.reg curve_Nearest_r4) .skip))
  (.seq (.reg curve_Nearest_r5)
  .ret))))), [.tmp 4]⟩
theorem curve_Nearest_s : slimF Try.prog 56 = some curve_Nearest_c := by kernel_rfl
abbrev curve_Nearest_f : Nat := 56
/-- printworks/curve.Raw -/
def curve_Raw_r0 : List SO := [rZ 2 (.box 82 (tZ 0)), rZ 4 (.assign (ciZ 0))]
def curve_Raw_r1 : List SO := [faZ 10 82 2 0, ldZ 11 80 10, rZ 12 (.call ⟨(.builtin .len), #[(tZ 11)], #[80]⟩), bcZ 13 .sub 3 12 1 3, rZ 5 (.assign (ciZ 0)), asZ 6 13]
def curve_Raw_a1 : List (List Nat) := [[], [0], [1], [2], [], [3, 4, 0, 1, 2, 3, 4]]
def curve_Raw_r2 : List SO := [mvZ 14 6, mvZ 15 5, boZ 16 .sub 3 14 15 3, bcZ 17 .gtr 3 16 1 3]
def curve_Raw_r3 : List SO := [mvZ 18 5, mvZ 19 6, boZ 20 .add 3 18 19 3, bcZ 21 .quo 3 20 2 3, asZ 7 21]
def curve_Raw_r4 : List SO := [faZ 22 82 2 0, ldZ 23 80 22, mvZ 24 7, iaZ 25 80 23 24, faZ 26 105 25 0, ldZ 27 3 26, mvZ 28 1, boZ 29 .leq 3 27 28 3]
def curve_Raw_r5 : List SO := [mvZ 30 7, asZ 5 30]
def curve_Raw_r6 : List SO := [mvZ 31 7, asZ 6 31]
def curve_Raw_r7 : List SO := [faZ 32 82 2 0, ldZ 33 80 32, mvZ 34 5, iaZ 35 80 33 34, ldZ 36 105 35, faZ 37 82 2 0, ldZ 38 80 37, mvZ 39 6, iaZ 40 80 38 39, ldZ 41 105 40, rZ 8 (.alloc 105), rZ 9 (.alloc 105), stZ 105 8 36, stZ 105 9 41]
def curve_Raw_a7 : List (List Nat) := [[], [0], [], [1, 2], [3], [], [5], [], [6, 7], [8], [], [], [10, 4, 0, 1, 2, 3, 4, 10, 11], [11, 9, 12, 0, 1, 2, 3, 4, 5, 6, 7, 8, 9, 10, 11, 12]]
def curve_Raw_r8 : List SO := [faZ 42 105 8 1, ldZ 43 3 42, faZ 44 105 9 1, ldZ 45 3 44, faZ 46 105 8 1, ldZ 47 3 46, boZ 48 .sub 3 45 47 3, mvZ 49 1, faZ 50 105 8 0, ldZ 51 3 50, boZ 52 .sub 3 49 51 3, boZ 53 .mul 3 48 52 3, faZ 54 105 9 0, ldZ 55 3 54, faZ 56 105 8 0, ldZ 57 3 56, boZ 58 .sub 3 55 57 3, rZ 59 (.call ⟨(.value (.func (56 : Nat))), #[(tZ 53), (tZ 58)], #[3, 3]⟩), boZ 60 .add 3 43 59 3, asZ 4 60]
def curve_Raw_a8 : List (List Nat) := [[], [0], [], [2], [], [4], [3, 5], [], [], [8], [7, 9], [6, 10], [], [12], [], [14], [13, 15], [11, 16], [1, 17], [18, 17, 0, 1, 2, 3, 4, 5, 6, 7, 8, 9, 10, 11, 12, 13, 14, 15, 16, 17, 18]]
def curve_Raw_c : SF := ⟨61, (.seq (.reg curve_Raw_r0)
  (.seq (.regd curve_Raw_r1 curve_Raw_a1)
  (.seq (.block 0 (.loop (.seq (.seq (.reg curve_Raw_r2)
  (.cond (tZ 17) .skip (.exit 0)))
  (.block 1 (.seq (.reg curve_Raw_r3)
  (.seq (.reg curve_Raw_r4)
  (.cond (tZ 29) (.reg curve_Raw_r5) (.reg curve_Raw_r6))))))))
  (.seq (.regd curve_Raw_r7 curve_Raw_a7)
  (.seq (.regd curve_Raw_r8 curve_Raw_a8)
  .ret))))), [.tmp 4]⟩
theorem curve_Raw_s : slimF Try.prog 68 = some curve_Raw_c := by kernel_rfl
abbrev curve_Raw_f : Nat := 68

def tbl_curve : List (Nat × SF) := [(43, curve_Check_c), (56, curve_Nearest_c), (68, curve_Raw_c)]
theorem tbl_curve_ok : okT Try.prog tbl_curve := ⟨curve_Check_s, curve_Nearest_s, curve_Raw_s, trivial⟩

end Go.Proofs.Ytkapjajlkpepmaa
namespace Go.Proofs.Ytkapjajlkpepmaa
open Go Go.Lite
set_option linter.unusedVariables false

/-- printworks/grid.Make -/
def grid_Make_r0 : List SO := [rZ 8 (.alloc 26), rZ 9 (.assign (ciZ 0))]
def grid_Make_r1 : List SO := [mvZ 19 0, mvZ 20 1, mvZ 21 2, rZ 22 (.call ⟨(.value (.func (48 : Nat))), #[(tZ 19), (tZ 20), (tZ 21)], #[3, 3, 3]⟩), mvZ 18 22, exZ 23 18 0, exZ 24 18 1, asZ 10 23, asZ 11 24]
def grid_Make_r2 : List SO := [mvZ 25 11, bcZ 26 .neq 34 25 0 34]
def grid_Make_r3 : List SO := [rZ 27 (.build 26 #[]), mvZ 28 11, stZ 26 8 27, asZ 9 28]
def grid_Make_r4 : List SO := [mvZ 29 0, mvZ 30 1, mvZ 31 2, mvZ 32 10, mvZ 33 1, boZ 34 .mul 3 32 33 3, rZ 35 (.makeSlice 24 (ciZ 0) (tZ 34)), rZ 36 (.build 26 #[(0, (tZ 29)), (1, (tZ 30)), (2, (tZ 31)), (3, (tZ 35))]), rZ 12 (.alloc 26), stZ 26 12 36]
def grid_Make_r5 : List SO := [mvZ 37 0, rZ 38 (.makeSlice 24 (tZ 37) (tZ 37)), asZ 13 38]
def grid_Make_r6 : List SO := [mvZ 39 10, rZ 40 (.move (ciZ 0))]
def grid_Make_r7 : List SO := [boZ 41 .lss 3 40 39 3]
def grid_Make_r8 : List SO := [mvZ 43 3, mvZ 44 13, rZ 45 (.call ⟨(.builtin .append), #[(.const (.slice none 0 0)), (tZ 44)], #[24, 24]⟩), rZ 46 (.call ⟨(.value (tZ 43)), #[(tZ 45)], #[24]⟩), mvZ 42 46, exZ 47 42 0, exZ 48 42 1, asZ 14 47, asZ 15 48]
def grid_Make_r9 : List SO := [mvZ 49 15, bcZ 50 .neq 34 49 0 34]
def grid_Make_r10 : List SO := [rZ 51 (.build 26 #[]), mvZ 52 15, stZ 26 8 51, asZ 9 52]
def grid_Make_r11 : List SO := [mvZ 53 14, rZ 54 (.call ⟨(.builtin .len), #[(tZ 53)], #[24]⟩), mvZ 55 1, boZ 56 .neq 3 54 55 3]
def grid_Make_r12 : List SO := [rZ 57 (.build 26 #[]), stZ 26 8 57, rZ 9 (.assign (ciZ 4))]
def grid_Make_r13 : List SO := [faZ 58 26 12 3, ldZ 59 24 58, mvZ 60 14, rZ 61 (.call ⟨(.builtin .append), #[(tZ 59), (tZ 60)], #[24, 24]⟩), faZ 62 26 12 3, stZ 24 62 61]
def grid_Make_r14 : List SO := [mvZ 63 0, bcZ 64 .sub 3 63 1 3, asZ 16 64]
def grid_Make_r15 : List SO := [mvZ 65 16, bcZ 66 .geq 3 65 0 3]
def grid_Make_r16 : List SO := [mvZ 69 13, mvZ 70 16, iaZ 71 24 69 70, ldZ 72 3 71, bcZ 73 .add 3 72 1 3, iaZ 74 24 69 70, stZ 3 74 73]
def grid_Make_r17 : List SO := [mvZ 75 13, mvZ 76 16, iaZ 77 24 75 76, ldZ 78 3 77, mvZ 79 2, boZ 80 .lss 3 78 79 3]
def grid_Make_r18 : List SO := [mvZ 81 13, mvZ 82 16, iaZ 83 24 81 82, ⟨none, .store 3 (tZ 83) (ciZ 0), none⟩]
def grid_Make_r19 : List SO := [mvZ 67 16, bcZ 68 .sub 3 67 1 3, asZ 16 68]
def grid_Make_r20 : List SO := [bcZ 84 .add 3 40 1 3, mvZ 40 84]
def grid_Make_r21 : List SO := [ldZ 85 26 12, rZ 86 (.call ⟨(.value (.func (44 : Nat))), #[(tZ 85)], #[26]⟩), asZ 17 86]
def grid_Make_r22 : List SO := [mvZ 87 17, bcZ 88 .neq 34 87 0 34]
def grid_Make_r23 : List SO := [rZ 89 (.build 26 #[]), mvZ 90 17, stZ 26 8 89, asZ 9 90]
def grid_Make_r24 : List SO := [ldZ 91 26 12, stZ 26 8 91, rZ 9 (.assign (ciZ 0))]
def grid_Make_c : SF := ⟨92, (.seq (.reg grid_Make_r0)
  (.seq (.reg grid_Make_r1)
  (.seq (.seq (.reg grid_Make_r2)
  (.cond (tZ 26) (.seq (.reg grid_Make_r3)
  .ret) .skip))
  (.seq (.reg grid_Make_r4)
  (.seq (.reg grid_Make_r5)
  (.seq (.seq (.reg grid_Make_r6)
  (.block 0 (.loop (.seq (.reg grid_Make_r7)
  (.seq (.cond (tZ 41) .skip (.exit 0))
  (.seq (.block 1 (.seq (.reg grid_Make_r8)
  (.seq (.seq (.reg grid_Make_r9)
  (.cond (tZ 50) (.seq (.reg grid_Make_r10)
  .ret) .skip))
  (.seq (.seq (.reg grid_Make_r11)
  (.cond (tZ 56) (.seq (.reg grid_Make_r12)
  .ret) .skip))
  (.seq (.reg grid_Make_r13)
  (.seq (.reg grid_Make_r14)
  (.block 2 (.loop (.seq (.seq (.reg grid_Make_r15)
  (.cond (tZ 66) .skip (.exit 2)))
  (.seq (.block 3 (.seq (.seq (.reg grid_Make_r16)
  (.seq (.reg grid_Make_r17)
  (.cond (tZ 80) (.exit 2) .skip)))
  (.reg grid_Make_r18)))
  (.reg grid_Make_r19)))))))))))
  (.reg grid_Make_r20)))))))
  (.seq (.seq (.reg grid_Make_r21)
  (.seq (.reg grid_Make_r22)
  (.cond (tZ 88) (.seq (.reg grid_Make_r23)
  .ret) .skip)))
  (.seq (.reg grid_Make_r24)
  .ret)))))))), [.cell 8 26, .tmp 9]⟩
theorem grid_Make_s : slimF Try.prog 31 = some grid_Make_c := by kernel_rfl
abbrev grid_Make_f : Nat := 31
/-- printworks/grid.Check -/
def grid_Check_r0 : List SO := [rZ 1 (.box 26 (tZ 0)), rZ 2 (.assign (ciZ 0))]
def grid_Check_r1 : List SO := [faZ 8 26 1 0, ldZ 9 3 8, faZ 10 26 1 1, ldZ 11 3 10, faZ 12 26 1 2, ldZ 13 3 12, rZ 14 (.call ⟨(.value (.func (48 : Nat))), #[(tZ 9), (tZ 11), (tZ 13)], #[3, 3, 3]⟩), mvZ 7 14, exZ 15 7 0, exZ 16 7 1, asZ 3 15, asZ 4 16]
def grid_Check_r2 : List SO := [mvZ 17 4, bcZ 18 .neq 34 17 0 34]
def grid_Check_r3 : List SO := [mvZ 19 4, asZ 2 19]
def grid_Check_r4 : List SO := [faZ 20 26 1 3, ldZ 21 24 20, rZ 22 (.call ⟨(.builtin .len), #[(tZ 21)], #[24]⟩), mvZ 23 3, faZ 24 26 1 1, ldZ 25 3 24, boZ 26 .mul 3 23 25 3, boZ 27 .neq 3 22 26 3]
def grid_Check_r5 : List SO := [rZ 2 (.assign (ciZ 4))]
def grid_Check_r6 : List SO := [faZ 28 26 1 3, ldZ 29 24 28, rZ 30 (.call ⟨(.builtin .len), #[(tZ 29)], #[24]⟩), rZ 31 (.move (ciZ 0))]
def grid_Check_r7 : List SO := [boZ 32 .lss 3 31 30 3]
def grid_Check_r8 : List SO := [iaZ 33 24 29 31, ldZ 34 3 33, asZ 6 34]
def grid_Check_r9 : List SO := [mvZ 35 6, rZ 36 (.binOp .lss 3 (tZ 35) (.const (.int .i64 (-32768))) 3), mvZ 37 36, gZ 37 false (mvZ 38 6), gZ 37 false (bcZ 39 .gtr 3 38 65535 3), rZ 40 (.pick (tZ 37) (.const (.bool true)) (tZ 39))]
def grid_Check_r10 : List SO := [rZ 2 (.assign (ciZ 3))]
def grid_Check_r11 : List SO := [bcZ 41 .add 3 31 1 3, mvZ 31 41]
def grid_Check_r12 : List SO := [rZ 2 (.assign (ciZ 0))]
def grid_Check_c : SF := ⟨42, (.seq (.reg grid_Check_r0)
  (.seq (.reg grid_Check_r1)
  (.seq (.seq (.reg grid_Check_r2)
  (.cond (tZ 18) (.seq (.reg grid_Check_r3)
  .ret) .skip))
  (.seq (.seq (.reg grid_Check_r4)
  (.cond (tZ 27) (.seq (.reg grid_Check_r5)
  .ret) .skip))
  (.seq (.seq (.reg grid_Check_r6)
  (.block 0 (.loop (.seq (.reg grid_Check_r7)
  (.seq (.cond (tZ 32) .skip (.exit 0))
  (.seq (.block 1 (.seq (.reg grid_Check_r8)
  (.seq (.reg grid_Check_r9)
  (.cond (tZ 40) (.seq (.reg grid_Check_r10)
  .ret) .skip))))
  (.reg grid_Check_r11)))))))
  (.seq (.reg grid_Check_r12)
  .ret)))))), [.tmp 2]⟩
theorem grid_Check_s : slimF Try.prog 44 = some grid_Check_c := by kernel_rfl
abbrev grid_Check_f : Nat := 44
/-- printworks/grid.Quick -/
def grid_Quick_r0 : List SO := [rZ 4 (.assign (.const (.slice none 0 0)))]
def grid_Quick_r1 : List SO := [mvZ 9 0, rZ 10 (.nilCheck (tZ 9)), faZ 11 26 10 2, ldZ 12 3 11, bcZ 13 .sub 3 12 1 3, rZ 14 (.binOp .quo 3 (ciZ 65280) (tZ 13) 3), asZ 5 14]
def grid_Quick_r2 : List SO := [mvZ 15 0, mvZ 16 1, rZ 17 (.call ⟨(.value (.func (55 : Nat))), #[(tZ 15), (tZ 16)], #[77, 24]⟩), asZ 6 17]
def grid_Quick_r3 : List SO := [mvZ 18 6, rZ 19 (.call ⟨(.builtin .len), #[(tZ 18)], #[24]⟩), rZ 20 (.move (ciZ 0))]
def grid_Quick_r4 : List SO := [boZ 21 .lss 3 20 19 3]
def grid_Quick_r5 : List SO := [mvZ 22 20, iaZ 23 24 18 20, ldZ 24 3 23, asZ 7 22, asZ 8 24]
def grid_Quick_r6 : List SO := [mvZ 25 6, mvZ 26 7, mvZ 27 8, mvZ 28 5, rZ 29 (.call ⟨(.value (.func (56 : Nat))), #[(tZ 27), (tZ 28)], #[3, 3]⟩), iaZ 30 24 25 26, stZ 3 30 29]
def grid_Quick_r7 : List SO := [bcZ 31 .add 3 20 1 3, mvZ 20 31]
def grid_Quick_r8 : List SO := [mvZ 32 6, asZ 4 32]
def grid_Quick_c : SF := ⟨33, (.seq (.reg grid_Quick_r0)
  (.seq (.reg grid_Quick_r1)
  (.seq (.reg grid_Quick_r2)
  (.seq (.seq (.reg grid_Quick_r3)
  (.block 0 (.loop (.seq (.reg grid_Quick_r4)
  (.seq (.cond (tZ 21) .skip (.exit 0))
  (.seq (.block 1 (.seq (.reg grid_Quick_r5)
  (.reg grid_Quick_r6)))
  (.reg grid_Quick_r7)))))))
  (.seq (.reg grid_Quick_r8)
  .ret))))), [.tmp 4]⟩
theorem grid_Quick_s : slimF Try.prog 46 = some grid_Quick_c := by kernel_rfl
abbrev grid_Quick_f : Nat := 46
/-- printworks/grid.nodes -/
def grid_nodes_r0 : List SO := [rZ 6 (.assign (ciZ 0)), rZ 7 (.assign (ciZ 0))]
def grid_nodes_r1 : List SO := [mvZ 9 0, bcZ 10 .lss 3 9 1 3, mvZ 11 10, gZ 11 false (mvZ 12 0), gZ 11 false (bcZ 13 .gtr 3 12 4 3), rZ 14 (.pick (tZ 11) (.const (.bool true)) (tZ 13)), mvZ 15 14, gZ 15 false (mvZ 16 1), gZ 15 false (bcZ 17 .lss 3 16 1 3), rZ 18 (.pick (tZ 15) (.const (.bool true)) (tZ 17)), mvZ 19 18, gZ 19 false (mvZ 20 1), gZ 19 false (bcZ 21 .gtr 3 20 8 3), rZ 22 (.pick (tZ 19) (.const (.bool true)) (tZ 21))]
def grid_nodes_r2 : List SO := [rZ 6 (.assign (ciZ 0)), rZ 7 (.assign (ciZ 3))]
def grid_nodes_r3 : List SO := [mvZ 23 2]
def grid_nodes_r4 : List SO := [bcZ 25 .eql 3 23 2 3, asZ 24 25]
def grid_nodes_r5 : List SO := [bcZ 26 .eql 3 23 3 3, asZ 24 26]
def grid_nodes_r6 : List SO := [bcZ 27 .eql 3 23 4 3, asZ 24 27]
def grid_nodes_r7 : List SO := [bcZ 28 .eql 3 23 5 3, asZ 24 28]
def grid_nodes_r8 : List SO := [bcZ 29 .eql 3 23 6 3, asZ 24 29]
def grid_nodes_r9 : List SO := [bcZ 30 .eql 3 23 7 3, asZ 24 30]
def grid_nodes_r10 : List SO := [bcZ 31 .eql 3 23 9 3, asZ 24 31]
def grid_nodes_r11 : List SO := [rZ 6 (.assign (ciZ 0)), rZ 7 (.assign (ciZ 3))]
def grid_nodes_r12 : List SO := [rZ 8 (.assign (ciZ 1))]
def grid_nodes_r13 : List SO := [mvZ 32 0, rZ 33 (.move (ciZ 0))]
def grid_nodes_r14 : List SO := [boZ 34 .lss 3 33 32 3]
def grid_nodes_r15 : List SO := [mvZ 35 8, mvZ 36 2, boZ 37 .mul 3 35 36 3, asZ 8 37]
def grid_nodes_r16 : List SO := [bcZ 38 .add 3 33 1 3, mvZ 33 38]
def grid_nodes_r17 : List SO := [mvZ 39 8, mvZ 40 1, boZ 41 .mul 3 39 40 3, bcZ 42 .gtr 3 41 32768 3]
def grid_nodes_r18 : List SO := [rZ 6 (.assign (ciZ 0)), rZ 7 (.assign (ciZ 2))]
def grid_nodes_r19 : List SO := [mvZ 43 8, asZ 6 43, rZ 7 (.assign (ciZ 0))]
def grid_nodes_c : SF := ⟨44, (.seq (.reg grid_nodes_r0)
  (.seq (.seq (.reg grid_nodes_r1)
  (.cond (tZ 22) (.seq (.reg grid_nodes_r2)
  .ret) .skip))
  (.seq (.seq (.reg grid_nodes_r3)
  (.block 0 (.seq (.seq (.reg grid_nodes_r4)
  (.cond (tZ 24) .skip (.seq (.reg grid_nodes_r5)
  (.cond (tZ 24) .skip (.seq (.reg grid_nodes_r6)
  (.cond (tZ 24) .skip (.seq (.reg grid_nodes_r7)
  (.cond (tZ 24) .skip (.seq (.reg grid_nodes_r8)
  (.cond (tZ 24) .skip (.seq (.reg grid_nodes_r9)
  (.cond (tZ 24) .skip (.reg grid_nodes_r10)))))))))))))
  (.cond (tZ 24) .skip (.seq (.reg grid_nodes_r11)
  .ret)))))
  (.seq (.reg grid_nodes_r12)
  (.seq (.seq (.reg grid_nodes_r13)
  (.block 1 (.loop (.seq (.reg grid_nodes_r14)
  (.seq (.cond (tZ 34) .skip (.exit 1))
  (.seq (.block 2 (.reg grid_nodes_r15))
  (.reg grid_nodes_r16)))))))
  (.seq (.seq (.reg grid_nodes_r17)
  (.cond (tZ 42) (.seq (.reg grid_nodes_r18)
  .ret) .skip))
  (.seq (.reg grid_nodes_r19)
  .ret))))))), [.tmp 6, .tmp 7]⟩
theorem grid_nodes_s : slimF Try.prog 48 = some grid_nodes_c := by kernel_rfl
abbrev grid_nodes_f : Nat := 48
/-- printworks/grid.Raw -/
def grid_Raw_r0 : List SO := [rZ 4 (.assign (.const (.slice none 0 0)))]
def grid_Raw_r1 : List SO := [mvZ 20 0, rZ 21 (.nilCheck (tZ 20)), faZ 22 26 21 2, ldZ 23 3 22, bcZ 24 .sub 3 23 1 3, rZ 25 (.binOp .quo 3 (ciZ 65280) (tZ 24) 3), asZ 5 25]
def grid_Raw_r2 : List SO := [rZ 6 (.alloc 96), rZ 7 (.alloc 96), rZ 8 (.alloc 96)]
def grid_Raw_r3 : List SO := [mvZ 26 0, rZ 27 (.nilCheck (tZ 26)), faZ 28 26 27 0, ldZ 29 3 28, asZ 9 29]
def grid_Raw_r4 : List SO := [mvZ 30 1, rZ 31 (.call ⟨(.builtin .len), #[(tZ 30)], #[24]⟩), rZ 32 (.move (ciZ 0))]
def grid_Raw_r5 : List SO := [boZ 33 .lss 3 32 31 3]
def grid_Raw_r6 : List SO := [mvZ 34 32, iaZ 35 24 30 32, ldZ 36 3 35, asZ 10 34, asZ 11 36]
def grid_Raw_r7 : List SO := [mvZ 37 10, mvZ 38 10, mvZ 39 11, mvZ 40 5, boZ 41 .quo 3 39 40 3, mvZ 42 11, mvZ 43 5, boZ 44 .rem 3 42 43 3, iaZ 45 96 6 37, stZ 3 45 41, iaZ 46 96 7 38, stZ 3 46 44]
def grid_Raw_a7 : List (List Nat) := [[], [], [], [], [2, 3], [], [], [5, 6], [0, 0, 2, 3, 4], [8, 4, 0, 2, 3, 4], [1, 0, 1, 2, 3, 4, 5, 6, 7, 8, 9], [10, 7, 9, 0, 1, 2, 3, 4, 5, 6, 7, 8, 9]]
def grid_Raw_r8 : List SO := [mvZ 47 10, asZ 12 47]
def grid_Raw_r9 : List SO := [mvZ 48 12, bcZ 49 .gtr 3 48 0 3, mvZ 50 49, gZ 50 true (mvZ 51 12), gZ 50 true (bcZ 52 .sub 3 51 1 3), gZ 50 true (iaZ 53 96 8 52), gZ 50 true (ldZ 54 3 53), gZ 50 true (iaZ 55 96 7 54), gZ 50 true (ldZ 56 3 55), gZ 50 true (mvZ 57 10), gZ 50 true (iaZ 58 96 7 57), gZ 50 true (ldZ 59 3 58), gZ 50 true (boZ 60 .lss 3 56 59 3), rZ 61 (.pick (tZ 50) (tZ 60) (.const (.bool false)))]
def grid_Raw_a9 : List (List Nat) := [[], [0], [1], [2], [3, 2], [4, 2], [5, 2], [6, 2], [7, 2], [2], [9, 2], [10, 2], [8, 11, 2], [2, 12]]
def grid_Raw_r10 : List SO := [mvZ 64 12, mvZ 65 12, bcZ 66 .sub 3 65 1 3, iaZ 67 96 8 66, ldZ 68 3 67, iaZ 69 96 8 64, stZ 3 69 68]
def grid_Raw_r11 : List SO := [mvZ 62 12, bcZ 63 .sub 3 62 1 3, asZ 12 63]
def grid_Raw_r12 : List SO := [mvZ 70 12, mvZ 71 10, iaZ 72 96 8 70, stZ 3 72 71]
def grid_Raw_r13 : List SO := [bcZ 73 .add 3 32 1 3, mvZ 32 73]
def grid_Raw_r14 : List SO := [mvZ 74 0, rZ 75 (.nilCheck (tZ 74)), faZ 76 26 75 1, ldZ 77 3 76, rZ 78 (.makeSlice 24 (tZ 77) (tZ 77)), asZ 13 78]
def grid_Raw_r15 : List SO := [mvZ 79 5, asZ 14 79]
def grid_Raw_r16 : List SO := [rZ 15 (.assign (ciZ 0))]
def grid_Raw_r17 : List SO := [mvZ 80 15, mvZ 81 9, boZ 82 .leq 3 80 81 3]
def grid_Raw_r18 : List SO := [rZ 16 (.assign (ciZ 0))]
def grid_Raw_r19 : List SO := [mvZ 85 15, mvZ 86 9, boZ 87 .lss 3 85 86 3]
def grid_Raw_r20 : List SO := [mvZ 88 15, iaZ 89 96 8 88, ldZ 90 3 89, iaZ 91 96 7 90, ldZ 92 3 91, asZ 16 92]
def grid_Raw_r21 : List SO := [mvZ 93 14, mvZ 94 16, boZ 95 .sub 3 93 94 3, asZ 17 95]
def grid_Raw_r22 : List SO := [mvZ 96 17, bcZ 97 .gtr 3 96 0 3]
def grid_Raw_r23 : List SO := [mvZ 98 0, mvZ 99 9, rZ 100 (.slice 96 (tZ 6) none (some (tZ 99)) none), rZ 101 (.call ⟨(.value (.func (66 : Nat))), #[(tZ 98), (tZ 100)], #[77, 24]⟩), asZ 18 101]
def grid_Raw_r24 : List SO := [mvZ 102 13, rZ 103 (.call ⟨(.builtin .len), #[(tZ 102)], #[24]⟩), rZ 104 (.move (ciZ 0))]
def grid_Raw_r25 : List SO := [boZ 105 .lss 3 104 103 3]
def grid_Raw_r26 : List SO := [mvZ 106 104, asZ 19 106]
def grid_Raw_r27 : List SO := [mvZ 107 13, mvZ 108 19, iaZ 109 24 107 108, ldZ 110 3 109, mvZ 111 17, mvZ 112 0, rZ 113 (.nilCheck (tZ 112)), faZ 114 26 113 3, ldZ 115 24 114, mvZ 116 18, mvZ 117 19, boZ 118 .add 3 116 117 3, iaZ 119 24 115 118, ldZ 120 3 119, boZ 121 .mul 3 111 120 3, boZ 122 .add 3 110 121 3, iaZ 123 24 107 108, stZ 3 123 122]
def grid_Raw_a27 : List (List Nat) := [[], [], [0, 1], [2], [], [], [5], [6], [7], [], [], [9, 10], [8, 11], [12], [4, 13], [3, 14], [0, 1, 0, 1, 2, 3, 4, 5, 6, 7, 8, 9, 10, 11, 12, 13, 14, 15], [16, 15, 0, 1, 2, 3, 4, 5, 6, 7, 8, 9, 10, 11, 12, 13, 14, 15]]
def grid_Raw_r28 : List SO := [bcZ 124 .add 3 104 1 3, mvZ 104 124]
def grid_Raw_r29 : List SO := [mvZ 125 15, mvZ 126 9, boZ 127 .lss 3 125 126 3]
def grid_Raw_r30 : List SO := [mvZ 128 16, asZ 14 128]
def grid_Raw_r31 : List SO := [mvZ 129 16, bcZ 130 .eql 3 129 0 3]
def grid_Raw_r32 : List SO := [mvZ 131 15, iaZ 132 96 8 131, ldZ 133 3 132, iaZ 134 96 6 133, ldZ 135 3 134, bcZ 136 .add 3 135 1 3, iaZ 137 96 6 133, stZ 3 137 136]
def grid_Raw_r33 : List SO := [mvZ 83 15, bcZ 84 .add 3 83 1 3, asZ 15 84]
def grid_Raw_r34 : List SO := [mvZ 138 13, asZ 4 138]
def grid_Raw_c : SF := ⟨139, (.seq (.reg grid_Raw_r0)
  (.seq (.reg grid_Raw_r1)
  (.seq (.reg grid_Raw_r2)
  (.seq (.reg grid_Raw_r3)
  (.seq (.seq (.reg grid_Raw_r4)
  (.block 0 (.loop (.seq (.reg grid_Raw_r5)
  (.seq (.cond (tZ 33) .skip (.exit 0))
  (.seq (.block 1 (.seq (.reg grid_Raw_r6)
  (.seq (.regd grid_Raw_r7 grid_Raw_a7)
  (.seq (.reg grid_Raw_r8)
  (.seq (.block 2 (.loop (.seq (.seq (.regd grid_Raw_r9 grid_Raw_a9)
  (.cond (tZ 61) .skip (.exit 2)))
  (.seq (.block 3 (.reg grid_Raw_r10))
  (.reg grid_Raw_r11)))))
  (.reg grid_Raw_r12))))))
  (.reg grid_Raw_r13)))))))
  (.seq (.reg grid_Raw_r14)
  (.seq (.reg grid_Raw_r15)
  (.seq (.seq (.reg grid_Raw_r16)
  (.block 4 (.loop (.seq (.seq (.reg grid_Raw_r17)
  (.cond (tZ 82) .skip (.exit 4)))
  (.seq (.block 5 (.seq (.reg grid_Raw_r18)
  (.seq (.seq (.reg grid_Raw_r19)
  (.cond (tZ 87) (.reg grid_Raw_r20) .skip))
  (.seq (.seq (.reg grid_Raw_r21)
  (.seq (.reg grid_Raw_r22)
  (.cond (tZ 97) (.seq (.reg grid_Raw_r23)
  (.seq (.reg grid_Raw_r24)
  (.block 6 (.loop (.seq (.reg grid_Raw_r25)
  (.seq (.cond (tZ 105) .skip (.exit 6))
  (.seq (.block 7 (.seq (.reg grid_Raw_r26)
  (.regd grid_Raw_r27 grid_Raw_a27)))
  (.reg grid_Raw_r28)))))))) .skip)))
  (.seq (.reg grid_Raw_r29)
  (.cond (tZ 127) (.seq (.reg grid_Raw_r30)
  (.seq (.seq (.reg grid_Raw_r31)
  (.cond (tZ 130) (.exit 4) .skip))
  (.reg grid_Raw_r32))) .skip))))))
  (.reg grid_Raw_r33))))))
  (.seq (.reg grid_Raw_r34)
  .ret))))))))), [.tmp 4]⟩
theorem grid_Raw_s : slimF Try.prog 55 = some grid_Raw_c := by kernel_rfl
abbrev grid_Raw_f : Nat := 55
/-- printworks/grid.at -/
def grid_at_r0 : List SO := [rZ 4 (.assign (ciZ 0))]
def grid_at_r1 : List SO := [rZ 5 (.assign (ciZ 0))]
def grid_at_r2 : List SO := [mvZ 8 1, rZ 9 (.call ⟨(.builtin .len), #[(tZ 8)], #[24]⟩), rZ 10 (.move (ciZ 0))]
def grid_at_r3 : List SO := [boZ 11 .lss 3 10 9 3]
def grid_at_r4 : List SO := [iaZ 12 24 8 10, ldZ 13 3 12, asZ 7 13]
def grid_at_r5 : List SO := [mvZ 14 5, mvZ 15 0, rZ 16 (.nilCheck (tZ 15)), faZ 17 26 16 2, ldZ 18 3 17, boZ 19 .mul 3 14 18 3, mvZ 20 7, boZ 21 .add 3 19 20 3, asZ 5 21]
def grid_at_r6 : List SO := [bcZ 22 .add 3 10 1 3, mvZ 10 22]
def grid_at_r7 : List SO := [mvZ 23 5, mvZ 24 0, rZ 25 (.nilCheck (tZ 24)), faZ 26 26 25 1, ldZ 27 3 26, boZ 28 .mul 3 23 27 3, asZ 4 28]
def grid_at_c : SF := ⟨29, (.seq (.reg grid_at_r0)
  (.seq (.reg grid_at_r1)
  (.seq (.seq (.reg grid_at_r2)
  (.block 0 (.loop (.seq (.reg grid_at_r3)
  (.seq (.cond (tZ 11) .skip (.exit 0))
  (.seq (.block 1 (.seq (.reg grid_at_r4)
  (.reg grid_at_r5)))
  (.reg grid_at_r6)))))))
  (.seq (.reg grid_at_r7)
  .ret)))), [.tmp 4]⟩
theorem grid_at_s : slimF Try.prog 66 = some grid_at_c := by kernel_rfl
abbrev grid_at_f : Nat := 66
/-- printworks/grid.Hull -/
def grid_Hull_r0 : List SO := [rZ 6 (.assign (.const (.slice none 0 0))), rZ 7 (.assign (.const (.slice none 0 0)))]
def grid_Hull_r1 : List SO := [mvZ 20 0, rZ 21 (.nilCheck (tZ 20)), faZ 22 26 21 2, ldZ 23 3 22, bcZ 24 .sub 3 23 1 3, rZ 25 (.binOp .quo 3 (ciZ 65280) (tZ 24) 3), asZ 8 25]
def grid_Hull_r2 : List SO := [rZ 9 (.alloc 96), rZ 10 (.alloc 96), rZ 11 (.alloc 96)]
def grid_Hull_r3 : List SO := [mvZ 26 1, rZ 27 (.call ⟨(.builtin .len), #[(tZ 26)], #[24]⟩), rZ 28 (.move (ciZ 0))]
def grid_Hull_r4 : List SO := [boZ 29 .lss 3 28 27 3]
def grid_Hull_r5 : List SO := [mvZ 30 28, asZ 12 30]
def grid_Hull_r6 : List SO := [mvZ 31 12, mvZ 32 12, mvZ 33 1, mvZ 34 12, iaZ 35 24 33 34, ldZ 36 3 35, mvZ 37 8, boZ 38 .quo 3 36 37 3, mvZ 39 2, mvZ 40 12, iaZ 41 24 39 40, ldZ 42 3 41, mvZ 43 8, boZ 44 .add 3 42 43 3, bcZ 45 .sub 3 44 1 3, mvZ 46 8, boZ 47 .quo 3 45 46 3, iaZ 48 96 9 31, stZ 3 48 38, iaZ 49 96 10 32, stZ 3 49 47]
def grid_Hull_a6 : List (List Nat) := [[], [], [], [], [2, 3], [4], [], [5, 6], [], [], [8, 9], [10], [], [11, 12], [13], [], [14, 15], [0, 0, 2, 3, 4, 5, 6, 7], [17, 7, 0, 2, 3, 4, 5, 6, 7], [1, 0, 1, 2, 3, 4, 5, 6, 7, 8, 9, 10, 11, 12, 13, 14, 15, 16, 17, 18], [19, 16, 18, 0, 1, 2, 3, 4, 5, 6, 7, 8, 9, 10, 11, 12, 13, 14, 15, 16, 17, 18]]
def grid_Hull_r7 : List SO := [bcZ 50 .add 3 28 1 3, mvZ 28 50]
def grid_Hull_r8 : List SO := [ldZ 51 96 9, stZ 96 11 51]
def grid_Hull_r9 : List SO := [mvZ 52 0, rZ 53 (.nilCheck (tZ 52)), faZ 54 26 53 1, ldZ 55 3 54, rZ 56 (.makeSlice 24 (tZ 55) (tZ 55)), mvZ 57 0, rZ 58 (.nilCheck (tZ 57)), faZ 59 26 58 1, ldZ 60 3 59, rZ 61 (.makeSlice 24 (tZ 60) (tZ 60)), asZ 13 56, asZ 14 61]
def grid_Hull_a9 : List (List Nat) := [[], [0], [1], [2], [3, 3], [], [5], [6], [7], [8, 8], [4, 0, 1, 2, 3, 4], [9, 10, 0, 1, 2, 3, 4, 5, 6, 7, 8, 9, 10]]
def grid_Hull_r10 : List SO := [rZ 15 (.assign (.const (.bool true)))]
def grid_Hull_r11 : List SO := [mvZ 62 0, mvZ 63 0, rZ 64 (.nilCheck (tZ 63)), faZ 65 26 64 0, ldZ 66 3 65, rZ 67 (.slice 96 (tZ 11) none (some (tZ 66)) none), rZ 68 (.call ⟨(.value (.func (66 : Nat))), #[(tZ 62), (tZ 67)], #[77, 24]⟩), asZ 16 68]
def grid_Hull_r12 : List SO := [mvZ 69 0, rZ 70 (.nilCheck (tZ 69)), faZ 71 26 70 1, ldZ 72 3 71, rZ 73 (.move (ciZ 0))]
def grid_Hull_r13 : List SO := [boZ 74 .lss 3 73 72 3]
def grid_Hull_r14 : List SO := [mvZ 75 73, asZ 17 75]
def grid_Hull_r15 : List SO := [mvZ 76 0, rZ 77 (.nilCheck (tZ 76)), faZ 78 26 77 3, ldZ 79 24 78, mvZ 80 16, mvZ 81 17, boZ 82 .add 3 80 81 3, iaZ 83 24 79 82, ldZ 84 3 83, asZ 18 84]
def grid_Hull_r16 : List SO := [mvZ 85 15, mvZ 86 85, gZ 86 false (mvZ 87 18), gZ 86 false (mvZ 88 13), gZ 86 false (mvZ 89 17), gZ 86 false (iaZ 90 24 88 89), gZ 86 false (ldZ 91 3 90), gZ 86 false (boZ 92 .lss 3 87 91 3), rZ 93 (.pick (tZ 86) (.const (.bool true)) (tZ 92))]
def grid_Hull_r17 : List SO := [mvZ 94 13, mvZ 95 17, mvZ 96 18, iaZ 97 24 94 95, stZ 3 97 96]
def grid_Hull_r18 : List SO := [mvZ 98 15, mvZ 99 98, gZ 99 false (mvZ 100 18), gZ 99 false (mvZ 101 14), gZ 99 false (mvZ 102 17), gZ 99 false (iaZ 103 24 101 102), gZ 99 false (ldZ 104 3 103), gZ 99 false (boZ 105 .gtr 3 100 104 3), rZ 106 (.pick (tZ 99) (.const (.bool true)) (tZ 105))]
def grid_Hull_r19 : List SO := [mvZ 107 14, mvZ 108 17, mvZ 109 18, iaZ 110 24 107 108, stZ 3 110 109]
def grid_Hull_r20 : List SO := [bcZ 111 .add 3 73 1 3, mvZ 73 111]
def grid_Hull_r21 : List SO := [rZ 15 (.assign (.const (.bool false)))]
def grid_Hull_r22 : List SO := [mvZ 112 0, rZ 113 (.nilCheck (tZ 112)), faZ 114 26 113 0, ldZ 115 3 114, bcZ 116 .sub 3 115 1 3, asZ 19 116]
def grid_Hull_r23 : List SO := [mvZ 117 19, bcZ 118 .geq 3 117 0 3, mvZ 119 118, gZ 119 true (mvZ 120 19), gZ 119 true (iaZ 121 96 11 120), gZ 119 true (ldZ 122 3 121), gZ 119 true (mvZ 123 19), gZ 119 true (iaZ 124 96 10 123), gZ 119 true (ldZ 125 3 124), gZ 119 true (boZ 126 .eql 3 122 125 3), rZ 127 (.pick (tZ 119) (tZ 126) (.const (.bool false)))]
def grid_Hull_a23 : List (List Nat) := [[], [0], [1], [2], [3, 2], [4, 2], [2], [6, 2], [7, 2], [5, 8, 2], [2, 9]]
def grid_Hull_r24 : List SO := [mvZ 128 19, mvZ 129 19, iaZ 130 96 9 129, ldZ 131 3 130, iaZ 132 96 11 128, stZ 3 132 131]
def grid_Hull_r25 : List SO := [mvZ 133 19, bcZ 134 .sub 3 133 1 3, asZ 19 134]
def grid_Hull_r26 : List SO := [mvZ 135 19, bcZ 136 .lss 3 135 0 3]
def grid_Hull_r27 : List SO := [mvZ 137 13, mvZ 138 14, asZ 6 137, asZ 7 138]
def grid_Hull_r28 : List SO := [mvZ 139 19, iaZ 140 96 11 139, ldZ 141 3 140, bcZ 142 .add 3 141 1 3, iaZ 143 96 11 139, stZ 3 143 142]
def grid_Hull_c : SF := ⟨144, (.seq (.reg grid_Hull_r0)
  (.seq (.reg grid_Hull_r1)
  (.seq (.reg grid_Hull_r2)
  (.seq (.seq (.reg grid_Hull_r3)
  (.block 0 (.loop (.seq (.reg grid_Hull_r4)
  (.seq (.cond (tZ 29) .skip (.exit 0))
  (.seq (.block 1 (.seq (.reg grid_Hull_r5)
  (.regd grid_Hull_r6 grid_Hull_a6)))
  (.reg grid_Hull_r7)))))))
  (.seq (.reg grid_Hull_r8)
  (.seq (.regd grid_Hull_r9 grid_Hull_a9)
  (.seq (.reg grid_Hull_r10)
  (.block 2 (.loop (.block 3 (.seq (.reg grid_Hull_r11)
  (.seq (.seq (.reg grid_Hull_r12)
  (.block 4 (.loop (.seq (.reg grid_Hull_r13)
  (.seq (.cond (tZ 74) .skip (.exit 4))
  (.seq (.block 5 (.seq (.reg grid_Hull_r14)
  (.seq (.reg grid_Hull_r15)
  (.seq (.seq (.reg grid_Hull_r16)
  (.cond (tZ 93) (.reg grid_Hull_r17) .skip))
  (.seq (.reg grid_Hull_r18)
  (.cond (tZ 106) (.reg grid_Hull_r19) .skip))))))
  (.reg grid_Hull_r20)))))))
  (.seq (.reg grid_Hull_r21)
  (.seq (.reg grid_Hull_r22)
  (.seq (.block 6 (.loop (.seq (.seq (.regd grid_Hull_r23 grid_Hull_a23)
  (.cond (tZ 127) .skip (.exit 6)))
  (.block 7 (.seq (.reg grid_Hull_r24)
  (.reg grid_Hull_r25))))))
  (.seq (.seq (.reg grid_Hull_r26)
  (.cond (tZ 136) (.seq (.reg grid_Hull_r27)
  .ret) .skip))
  (.reg grid_Hull_r28))))))))))))))))), [.tmp 6, .tmp 7]⟩
theorem grid_Hull_s : slimF Try.prog 67 = some grid_Hull_c := by kernel_rfl
abbrev grid_Hull_f : Nat := 67

def tbl_grid : List (Nat × SF) := [(31, grid_Make_c), (44, grid_Check_c), (46, grid_Quick_c), (48, grid_nodes_c), (55, grid_Raw_c), (66, grid_at_c), (67, grid_Hull_c)]
theorem tbl_grid_ok : okT Try.prog tbl_grid := ⟨grid_Make_s, grid_Check_s, grid_Quick_s, grid_nodes_s, grid_Raw_s, grid_at_s, grid_Hull_s, trivial⟩

end Go.Proofs.Ytkapjajlkpepmaa
namespace Go.Proofs.Ytkapjajlkpepmaa
open Go Go.Lite
set_option linter.unusedVariables false

/-- printworks/profile.Forward -/
def profile_Forward_r0 : List SO := [rZ 2 (.box 28 (tZ 0)), rZ 4 (.alloc 30), rZ 5 (.assign (ciZ 0))]
def profile_Forward_r1 : List SO := [ldZ 8 28 2, rZ 9 (.call ⟨(.value (.func (19 : Nat))), #[(tZ 8)], #[28]⟩), asZ 6 9]
def profile_Forward_r2 : List SO := [mvZ 10 6, bcZ 11 .neq 34 10 0 34]
def profile_Forward_r3 : List SO := [rZ 12 (.build 30 #[]), mvZ 13 6, stZ 30 4 12, asZ 5 13]
def profile_Forward_r4 : List SO := [mvZ 14 1, faZ 15 28 2 1, ldZ 16 22 15, rZ 17 (.call ⟨(.builtin .len), #[(tZ 16)], #[22]⟩), rZ 18 (.call ⟨(.value (.func (22 : Nat))), #[(tZ 14), (tZ 17)], #[24, 3]⟩), asZ 7 18]
def profile_Forward_r5 : List SO := [mvZ 19 7, bcZ 20 .neq 34 19 0 34]
def profile_Forward_r6 : List SO := [rZ 21 (.build 30 #[]), mvZ 22 7, stZ 30 4 21, asZ 5 22]
def profile_Forward_r7 : List SO := [mvZ 23 1, rZ 24 (.call ⟨(.value (.func (23 : Nat))), #[(tZ 2), (tZ 23)], #[59, 24]⟩), stZ 30 4 24, rZ 5 (.assign (ciZ 0))]
def profile_Forward_c : SF := ⟨25, (.seq (.reg profile_Forward_r0)
  (.seq (.seq (.reg profile_Forward_r1)
  (.seq (.reg profile_Forward_r2)
  (.cond (tZ 11) (.seq (.reg profile_Forward_r3)
  .ret) .skip)))
  (.seq (.seq (.reg profile_Forward_r4)
  (.seq (.reg profile_Forward_r5)
  (.cond (tZ 20) (.seq (.reg profile_Forward_r6)
  .ret) .skip)))
  (.seq (.reg profile_Forward_r7)
  .ret)))), [.cell 4 30, .tmp 5]⟩
theorem profile_Forward_s : slimF Try.prog 8 = some profile_Forward_c := by kernel_rfl
/-- printworks/profile.Check -/
def profile_Check_r0 : List SO := [rZ 1 (.box 28 (tZ 0)), rZ 2 (.assign (ciZ 0))]
def profile_Check_r1 : List SO := [faZ 11 28 1 0, ldZ 12 9 11, rZ 13 (.call ⟨(.value (.func (41 : Nat))), #[(tZ 12)], #[9]⟩), rZ 14 (.unOp .not 4 (tZ 13))]
def profile_Check_r2 : List SO := [rZ 2 (.assign (ciZ 6))]
def profile_Check_r3 : List SO := [faZ 15 28 1 1, ldZ 16 22 15, rZ 17 (.call ⟨(.builtin .len), #[(tZ 16)], #[22]⟩), asZ 3 17]
def profile_Check_r4 : List SO := [mvZ 19 3, bcZ 20 .gtr 3 19 4 3, asZ 18 20]
def profile_Check_r5 : List SO := [rZ 2 (.assign (ciZ 2))]
def profile_Check_r6 : List SO := [mvZ 22 3, bcZ 23 .eql 3 22 0 3, asZ 21 23]
def profile_Check_r7 : List SO := [rZ 2 (.assign (ciZ 1))]
def profile_Check_r8 : List SO := [faZ 24 28 1 1, ldZ 25 22 24, rZ 26 (.call ⟨(.value (.func (42 : Nat))), #[(tZ 25)], #[22]⟩), asZ 4 26]
def profile_Check_r9 : List SO := [mvZ 27 4, bcZ 28 .neq 34 27 0 34]
def profile_Check_r10 : List SO := [mvZ 29 4, asZ 2 29]
def profile_Check_r11 : List SO := [faZ 30 28 1 2, ldZ 31 23 30, rZ 32 (.call ⟨(.builtin .len), #[(tZ 31)], #[23]⟩), faZ 33 28 1 1, ldZ 34 22 33, rZ 35 (.call ⟨(.builtin .len), #[(tZ 34)], #[22]⟩), boZ 36 .neq 3 32 35 3]
def profile_Check_r12 : List SO := [rZ 2 (.assign (ciZ 4))]
def profile_Check_r13 : List SO := [faZ 37 28 1 2, ldZ 38 23 37, rZ 39 (.call ⟨(.builtin .len), #[(tZ 38)], #[23]⟩), rZ 40 (.move (ciZ 0))]
def profile_Check_r14 : List SO := [boZ 41 .lss 3 40 39 3]
def profile_Check_r15 : List SO := [iaZ 42 23 38 40, ldZ 43 82 42, rZ 6 (.alloc 82), stZ 82 6 43]
def profile_Check_r16 : List SO := [ldZ 44 82 6, rZ 45 (.call ⟨(.value (.func (43 : Nat))), #[(tZ 44)], #[82]⟩), asZ 7 45]
def profile_Check_r17 : List SO := [mvZ 46 7, bcZ 47 .neq 34 46 0 34]
def profile_Check_r18 : List SO := [mvZ 48 7, asZ 2 48]
def profile_Check_r19 : List SO := [bcZ 49 .add 3 40 1 3, mvZ 40 49]
def profile_Check_r20 : List SO := [faZ 50 28 1 3, ldZ 51 26 50, rZ 52 (.call ⟨(.value (.func (44 : Nat))), #[(tZ 51)], #[26]⟩), asZ 8 52]
def profile_Check_r21 : List SO := [mvZ 53 8, bcZ 54 .neq 34 53 0 34]
def profile_Check_r22 : List SO := [mvZ 55 8, asZ 2 55]
def profile_Check_r23 : List SO := [faZ 56 28 1 3, faZ 57 26 56 0, ldZ 58 3 57, faZ 59 28 1 1, ldZ 60 22 59, rZ 61 (.call ⟨(.builtin .len), #[(tZ 60)], #[22]⟩), boZ 62 .neq 3 58 61 3, mvZ 63 62, gZ 63 false (faZ 64 28 1 3), gZ 63 false (faZ 65 26 64 1), gZ 63 false (ldZ 66 3 65), gZ 63 false (bcZ 67 .neq 3 66 3 3), rZ 68 (.pick (tZ 63) (.const (.bool true)) (tZ 67))]
def profile_Check_r24 : List SO := [rZ 2 (.assign (ciZ 4))]
def profile_Check_r25 : List SO := [faZ 69 28 1 3, faZ 70 26 69 3, ldZ 71 24 70, asZ 9 71]
def profile_Check_r26 : List SO := [mvZ 72 9, rZ 73 (.call ⟨(.builtin .len), #[(tZ 72)], #[24]⟩), bcZ 74 .gtr 3 73 0 3]
def profile_Check_r27 : List SO := [mvZ 77 9, rZ 78 (.indexAddr 24 (tZ 77) (ciZ 0)), ldZ 79 3 78, mvZ 80 9, rZ 81 (.indexAddr 24 (tZ 80) (ciZ 1)), ldZ 82 3 81, mvZ 83 9, rZ 84 (.indexAddr 24 (tZ 83) (ciZ 2)), ldZ 85 3 84, rZ 86 (.build 30 #[(0, (tZ 79)), (1, (tZ 82)), (2, (tZ 85))]), rZ 87 (.call ⟨(.value (.func (24 : Nat))), #[(tZ 86)], #[30]⟩), asZ 10 87]
def profile_Check_a27 : List (List Nat) := [[], [0], [1], [], [3], [4], [], [6], [7], [2, 5, 8], [9], [10, 10, 0, 1, 2, 3, 4, 5, 6, 7, 8, 9, 10]]
def profile_Check_r28 : List SO := [mvZ 88 10, bcZ 89 .neq 34 88 0 34]
def profile_Check_r29 : List SO := [mvZ 90 10, asZ 2 90]
def profile_Check_r30 : List SO := [mvZ 75 9, rZ 76 (.slice 24 (tZ 75) (some (ciZ 3)) none none), asZ 9 76]
def profile_Check_r31 : List SO := [rZ 2 (.assign (ciZ 0))]
def profile_Check_c : SF := ⟨91, (.seq (.reg profile_Check_r0)
  (.seq (.seq (.reg profile_Check_r1)
  (.cond (tZ 14) (.seq (.reg profile_Check_r2)
  .ret) .skip))
  (.seq (.seq (.reg profile_Check_r3)
  (.block 0 (.seq (.reg profile_Check_r4)
  (.cond (tZ 18) (.seq (.reg profile_Check_r5)
  .ret) (.seq (.reg profile_Check_r6)
  (.cond (tZ 21) (.seq (.reg profile_Check_r7)
  .ret) .skip))))))
  (.seq (.seq (.reg profile_Check_r8)
  (.seq (.reg profile_Check_r9)
  (.cond (tZ 28) (.seq (.reg profile_Check_r10)
  .ret) .skip)))
  (.seq (.seq (.reg profile_Check_r11)
  (.cond (tZ 36) (.seq (.reg profile_Check_r12)
  .ret) .skip))
  (.seq (.seq (.reg profile_Check_r13)
  (.block 1 (.loop (.seq (.reg profile_Check_r14)
  (.seq (.cond (tZ 41) .skip (.exit 1))
  (.seq (.block 2 (.seq (.reg profile_Check_r15)
  (.seq (.reg profile_Check_r16)
  (.seq (.reg profile_Check_r17)
  (.cond (tZ 47) (.seq (.reg profile_Check_r18)
  .ret) .skip)))))
  (.reg profile_Check_r19)))))))
  (.seq (.seq (.reg profile_Check_r20)
  (.seq (.reg profile_Check_r21)
  (.cond (tZ 54) (.seq (.reg profile_Check_r22)
  .ret) .skip)))
  (.seq (.seq (.reg profile_Check_r23)
  (.cond (tZ 68) (.seq (.reg profile_Check_r24)
  .ret) .skip))
  (.seq (.seq (.reg profile_Check_r25)
  (.block 3 (.loop (.seq (.seq (.reg profile_Check_r26)
  (.cond (tZ 74) .skip (.exit 3)))
  (.seq (.block 4 (.seq (.regd profile_Check_r27 profile_Check_a27)
  (.seq (.reg profile_Check_r28)
  (.cond (tZ 89) (.seq (.reg profile_Check_r29)
  .ret) .skip))))
  (.reg profile_Check_r30))))))
  (.seq (.reg profile_Check_r31)
  .ret)))))))))), [.tmp 2]⟩
theorem profile_Check_s : slimF Try.prog 19 = some profile_Check_c := by kernel_rfl
abbrev profile_Check_f : Nat := 19
/-- printworks/profile.Tones -/
def profile_Tones_r0 : List SO := [rZ 4 (.assign (ciZ 0))]
def profile_Tones_r1 : List SO := [mvZ 7 0, rZ 8 (.call ⟨(.builtin .len), #[(tZ 7)], #[24]⟩), mvZ 9 1, boZ 10 .neq 3 8 9 3]
def profile_Tones_r2 : List SO := [rZ 4 (.assign (ciZ 4))]
def profile_Tones_r3 : List SO := [mvZ 11 0, rZ 12 (.call ⟨(.builtin .len), #[(tZ 11)], #[24]⟩), rZ 13 (.move (ciZ 0))]
def profile_Tones_r4 : List SO := [boZ 14 .lss 3 13 12 3]
def profile_Tones_r5 : List SO := [iaZ 15 24 11 13, ldZ 16 3 15, asZ 6 16]
def profile_Tones_r6 : List SO := [mvZ 17 6, bcZ 18 .lss 3 17 0 3, mvZ 19 18, gZ 19 false (mvZ 20 6), gZ 19 false (bcZ 21 .gtr 3 20 255 3), rZ 22 (.pick (tZ 19) (.const (.bool true)) (tZ 21))]
def profile_Tones_r7 : List SO := [rZ 4 (.assign (ciZ 3))]
def profile_Tones_r8 : List SO := [bcZ 23 .add 3 13 1 3, mvZ 13 23]
def profile_Tones_r9 : List SO := [rZ 4 (.assign (ciZ 0))]
def profile_Tones_c : SF := ⟨24, (.seq (.reg profile_Tones_r0)
  (.seq (.seq (.reg profile_Tones_r1)
  (.cond (tZ 10) (.seq (.reg profile_Tones_r2)
  .ret) .skip))
  (.seq (.seq (.reg profile_Tones_r3)
  (.block 0 (.loop (.seq (.reg profile_Tones_r4)
  (.seq (.cond (tZ 14) .skip (.exit 0))
  (.seq (.block 1 (.seq (.reg profile_Tones_r5)
  (.seq (.reg profile_Tones_r6)
  (.cond (tZ 22) (.seq (.reg profile_Tones_r7)
  .ret) .skip))))
  (.reg profile_Tones_r8)))))))
  (.seq (.reg profile_Tones_r9)
  .ret)))), [.tmp 4]⟩
theorem profile_Tones_s : slimF Try.prog 22 = some profile_Tones_c := by kernel_rfl
abbrev profile_Tones_f : Nat := 22
/-- printworks/profile.Quick -/
def profile_Quick_r0 : List SO := [rZ 4 (.alloc 30)]
def profile_Quick_r1 : List SO := [mvZ 6 0, rZ 7 (.nilCheck (tZ 6)), faZ 8 28 7 3, mvZ 9 0, mvZ 10 1, rZ 11 (.call ⟨(.value (.func (47 : Nat))), #[(tZ 9), (tZ 10)], #[59, 24]⟩), rZ 12 (.call ⟨(.value (.func (46 : Nat))), #[(tZ 8), (tZ 11)], #[77, 24]⟩), asZ 5 12]
def profile_Quick_a1 : List (List Nat) := [[], [0], [1], [], [], [3, 4], [2, 5, 5], [6, 6, 0, 1, 2, 3, 4, 5, 6]]
def profile_Quick_r2 : List SO := [mvZ 13 5, rZ 14 (.indexAddr 24 (tZ 13) (ciZ 0)), ldZ 15 3 14, mvZ 16 5, rZ 17 (.indexAddr 24 (tZ 16) (ciZ 1)), ldZ 18 3 17, mvZ 19 5, rZ 20 (.indexAddr 24 (tZ 19) (ciZ 2)), ldZ 21 3 20, rZ 22 (.build 30 #[(0, (tZ 15)), (1, (tZ 18)), (2, (tZ 21))]), stZ 30 4 22]
def profile_Quick_a2 : List (List Nat) := [[], [0], [1], [], [3], [4], [], [6], [7], [2, 5, 8], [9, 0, 1, 2, 3, 4, 5, 6, 7, 8, 9]]
def profile_Quick_c : SF := ⟨23, (.seq (.reg profile_Quick_r0)
  (.seq (.regd profile_Quick_r1 profile_Quick_a1)
  (.seq (.regd profile_Quick_r2 profile_Quick_a2)
  .ret))), [.cell 4 30]⟩
theorem profile_Quick_s : slimF Try.prog 23 = some profile_Quick_c := by kernel_rfl
abbrev profile_Quick_f : Nat := 23
/-- printworks/profile.IsName -/
def profile_IsName_r0 : List SO := [rZ 2 (.assign (.const (.bool false)))]
def profile_IsName_r1 : List SO := [mvZ 5 0, rZ 6 (.call ⟨(.builtin .len), #[(tZ 5)], #[9]⟩), bcZ 7 .lss 3 6 1 3, mvZ 8 7, gZ 8 false (mvZ 9 0), gZ 8 false (rZ 10 (.call ⟨(.builtin .len), #[(tZ 9)], #[9]⟩)), gZ 8 false (bcZ 11 .gtr 3 10 16 3), rZ 12 (.pick (tZ 8) (.const (.bool true)) (tZ 11)), mvZ 13 12, gZ 13 false (mvZ 14 0), gZ 13 false (rZ 15 (.index 9 (tZ 14) (ciZ 0))), gZ 13 false (rZ 16 (.binOp .lss 5 (tZ 15) (.const (.int .u8 97)) 5)), rZ 17 (.pick (tZ 13) (.const (.bool true)) (tZ 16)), mvZ 18 17, gZ 18 false (mvZ 19 0), gZ 18 false (rZ 20 (.index 9 (tZ 19) (ciZ 0))), gZ 18 false (rZ 21 (.binOp .gtr 5 (tZ 20) (.const (.int .u8 122)) 5)), rZ 22 (.pick (tZ 18) (.const (.bool true)) (tZ 21))]
def profile_IsName_r2 : List SO := [rZ 2 (.assign (.const (.bool false)))]
def profile_IsName_r3 : List SO := [mvZ 23 0, rZ 24 (.call ⟨(.builtin .len), #[(tZ 23)], #[9]⟩), rZ 25 (.move (ciZ 0))]
def profile_IsName_r4 : List SO := [boZ 26 .lss 3 25 24 3]
def profile_IsName_r5 : List SO := [mvZ 27 25, asZ 3 27]
def profile_IsName_r6 : List SO := [mvZ 28 0, mvZ 29 3, rZ 30 (.index 9 (tZ 28) (tZ 29)), asZ 4 30]
def profile_IsName_r7 : List SO := [mvZ 31 4, rZ 32 (.binOp .lss 5 (tZ 31) (.const (.int .u8 97)) 5), mvZ 33 32, gZ 33 false (mvZ 34 4), gZ 33 false (rZ 35 (.binOp .gtr 5 (tZ 34) (.const (.int .u8 122)) 5)), rZ 36 (.pick (tZ 33) (.const (.bool true)) (tZ 35)), mvZ 37 36, gZ 37 true (mvZ 38 4), gZ 37 true (rZ 39 (.binOp .lss 5 (tZ 38) (.const (.int .u8 48)) 5)), gZ 37 true (mvZ 40 39), gZ 40 false (mvZ 41 4), gZ 40 false (rZ 42 (.binOp .gtr 5 (tZ 41) (.const (.int .u8 57)) 5)), gZ 37 true (rZ 43 (.pick (tZ 40) (.const (.bool true)) (tZ 42))), rZ 44 (.pick (tZ 37) (tZ 43) (.const (.bool false))), mvZ 45 44, gZ 45 true (mvZ 46 4), gZ 45 true (rZ 47 (.binOp .neq 5 (tZ 46) (.const (.int .u8 45)) 5)), rZ 48 (.pick (tZ 45) (tZ 47) (.const (.bool false)))]
def profile_IsName_r8 : List SO := [rZ 2 (.assign (.const (.bool false)))]
def profile_IsName_r9 : List SO := [bcZ 49 .add 3 25 1 3, mvZ 25 49]
def profile_IsName_r10 : List SO := [rZ 2 (.assign (.const (.bool true)))]
def profile_IsName_c : SF := ⟨50, (.seq (.reg profile_IsName_r0)
  (.seq (.seq (.reg profile_IsName_r1)
  (.cond (tZ 22) (.seq (.reg profile_IsName_r2)
  .ret) .skip))
  (.seq (.seq (.reg profile_IsName_r3)
  (.block 0 (.loop (.seq (.reg profile_IsName_r4)
  (.seq (.cond (tZ 26) .skip (.exit 0))
  (.seq (.block 1 (.seq (.reg profile_IsName_r5)
  (.seq (.reg profile_IsName_r6)
  (.seq (.reg profile_IsName_r7)
  (.cond (tZ 48) (.seq (.reg profile_IsName_r8)
  .ret) .skip)))))
  (.reg profile_IsName_r9)))))))
  (.seq (.reg profile_IsName_r10)
  .ret)))), [.tmp 2]⟩
theorem profile_IsName_s : slimF Try.prog 41 = some profile_IsName_c := by kernel_rfl
abbrev profile_IsName_f : Nat := 41
/-- printworks/profile.Names -/
def profile_Names_r0 : List SO := [rZ 2 (.assign (ciZ 0))]
def profile_Names_r1 : List SO := [mvZ 7 0, rZ 8 (.call ⟨(.builtin .len), #[(tZ 7)], #[22]⟩), rZ 9 (.move (ciZ 0))]
def profile_Names_r2 : List SO := [boZ 10 .lss 3 9 8 3]
def profile_Names_r3 : List SO := [mvZ 11 9, iaZ 12 22 7 9, ldZ 13 9 12, asZ 3 11, asZ 4 13]
def profile_Names_r4 : List SO := [mvZ 14 4, rZ 15 (.call ⟨(.value (.func (41 : Nat))), #[(tZ 14)], #[9]⟩), rZ 16 (.unOp .not 4 (tZ 15))]
def profile_Names_r5 : List SO := [rZ 2 (.assign (ciZ 6))]
def profile_Names_r6 : List SO := [mvZ 17 0, mvZ 18 3, rZ 19 (.slice 22 (tZ 17) none (some (tZ 18)) none), rZ 20 (.call ⟨(.builtin .len), #[(tZ 19)], #[22]⟩), rZ 21 (.move (ciZ 0))]
def profile_Names_r7 : List SO := [boZ 22 .lss 3 21 20 3]
def profile_Names_r8 : List SO := [iaZ 23 22 19 21, ldZ 24 9 23, asZ 6 24]
def profile_Names_r9 : List SO := [mvZ 25 4, mvZ 26 6, boZ 27 .eql 9 25 26 9]
def profile_Names_r10 : List SO := [rZ 2 (.assign (ciZ 7))]
def profile_Names_r11 : List SO := [bcZ 28 .add 3 21 1 3, mvZ 21 28]
def profile_Names_r12 : List SO := [bcZ 29 .add 3 9 1 3, mvZ 9 29]
def profile_Names_r13 : List SO := [rZ 2 (.assign (ciZ 0))]
def profile_Names_c : SF := ⟨30, (.seq (.reg profile_Names_r0)
  (.seq (.seq (.reg profile_Names_r1)
  (.block 0 (.loop (.seq (.reg profile_Names_r2)
  (.seq (.cond (tZ 10) .skip (.exit 0))
  (.seq (.block 1 (.seq (.reg profile_Names_r3)
  (.seq (.seq (.reg profile_Names_r4)
  (.cond (tZ 16) (.seq (.reg profile_Names_r5)
  .ret) .skip))
  (.seq (.reg profile_Names_r6)
  (.block 2 (.loop (.seq (.reg profile_Names_r7)
  (.seq (.cond (tZ 22) .skip (.exit 2))
  (.seq (.block 3 (.seq (.reg profile_Names_r8)
  (.seq (.reg profile_Names_r9)
  (.cond (tZ 27) (.seq (.reg profile_Names_r10)
  .ret) .skip))))
  (.reg profile_Names_r11))))))))))
  (.reg profile_Names_r12)))))))
  (.seq (.reg profile_Names_r13)
  .ret))), [.tmp 2]⟩
theorem profile_Names_s : slimF Try.prog 42 = some profile_Names_c := by kernel_rfl
abbrev profile_Names_f : Nat := 42
/-- printworks/profile.Fine -/
def profile_Fine_r0 : List SO := [rZ 4 (.assign (.const (.slice none 0 0)))]
def profile_Fine_r1 : List SO := [mvZ 8 1, rZ 9 (.call ⟨(.builtin .len), #[(tZ 8)], #[24]⟩), rZ 10 (.makeSlice 24 (tZ 9) (tZ 9)), asZ 5 10]
def profile_Fine_r2 : List SO := [mvZ 11 1, rZ 12 (.call ⟨(.builtin .len), #[(tZ 11)], #[24]⟩), rZ 13 (.move (ciZ 0))]
def profile_Fine_r3 : List SO := [boZ 14 .lss 3 13 12 3]
def profile_Fine_r4 : List SO := [mvZ 15 13, iaZ 16 24 11 13, ldZ 17 3 16, asZ 6 15, asZ 7 17]
def profile_Fine_r5 : List SO := [mvZ 18 5, mvZ 19 6, mvZ 20 0, mvZ 21 6, mvZ 22 7, rZ 23 (.call ⟨(.value (.func (60 : Nat))), #[(tZ 20), (tZ 21), (tZ 22)], #[59, 3, 3]⟩), iaZ 24 24 18 19, stZ 3 24 23]
def profile_Fine_r6 : List SO := [bcZ 25 .add 3 13 1 3, mvZ 13 25]
def profile_Fine_r7 : List SO := [mvZ 26 5, asZ 4 26]
def profile_Fine_c : SF := ⟨27, (.seq (.reg profile_Fine_r0)
  (.seq (.reg profile_Fine_r1)
  (.seq (.seq (.reg profile_Fine_r2)
  (.block 0 (.loop (.seq (.reg profile_Fine_r3)
  (.seq (.cond (tZ 14) .skip (.exit 0))
  (.seq (.block 1 (.seq (.reg profile_Fine_r4)
  (.reg profile_Fine_r5)))
  (.reg profile_Fine_r6)))))))
  (.seq (.reg profile_Fine_r7)
  .ret)))), [.tmp 4]⟩
theorem profile_Fine_s : slimF Try.prog 47 = some profile_Fine_c := by kernel_rfl
abbrev profile_Fine_f : Nat := 47
/-- printworks/profile.FineOne -/
def profile_FineOne_r0 : List SO := [rZ 6 (.assign (ciZ 0))]
def profile_FineOne_r1 : List SO := [mvZ 7 0, rZ 8 (.nilCheck (tZ 7)), faZ 9 28 8 2, ldZ 10 23 9, mvZ 11 1, iaZ 12 23 10 11, ldZ 13 82 12, mvZ 14 2, rZ 15 (.binOp .mul 3 (ciZ 256) (tZ 14) 3), rZ 16 (.call ⟨(.value (.func (68 : Nat))), #[(tZ 13), (tZ 15)], #[82, 3]⟩), asZ 6 16]
def profile_FineOne_c : SF := ⟨17, (.seq (.reg profile_FineOne_r0)
  (.seq (.reg profile_FineOne_r1)
  .ret)), [.tmp 6]⟩
theorem profile_FineOne_s : slimF Try.prog 60 = some profile_FineOne_c := by kernel_rfl
abbrev profile_FineOne_f : Nat := 60

def tbl_profile : List (Nat × SF) := [(8, profile_Forward_c), (19, profile_Check_c), (22, profile_Tones_c), (23, profile_Quick_c), (41, profile_IsName_c), (42, profile_Names_c), (47, profile_Fine_c), (60, profile_FineOne_c)]
theorem tbl_profile_ok : okT Try.prog tbl_profile := ⟨profile_Forward_s, profile_Check_s, profile_Tones_s, profile_Quick_s, profile_IsName_s, profile_Names_s, profile_Fine_s, profile_FineOne_s, trivial⟩

end Go.Proofs.Ytkapjajlkpepmaa
namespace Go.Proofs.Ytkapjajlkpepmaa
open Go Go.Lite
set_option linter.unusedVariables false

/-- printworks/refspace.Square -/
def refspace_Square_r0 : List SO := [rZ 2 (.box 30 (tZ 0)), rZ 3 (.box 30 (tZ 1)), rZ 4 (.assign (ciZ 0)), rZ 5 (.assign (ciZ 0))]
def refspace_Square_r1 : List SO := [ldZ 8 30 2, rZ 9 (.call ⟨(.value (.func (24 : Nat))), #[(tZ 8)], #[30]⟩), asZ 6 9]
def refspace_Square_r2 : List SO := [mvZ 10 6, bcZ 11 .neq 34 10 0 34]
def refspace_Square_r3 : List SO := [mvZ 12 6, rZ 4 (.assign (ciZ 0)), asZ 5 12]
def refspace_Square_r4 : List SO := [ldZ 13 30 3, rZ 14 (.call ⟨(.value (.func (24 : Nat))), #[(tZ 13)], #[30]⟩), asZ 7 14]
def refspace_Square_r5 : List SO := [mvZ 15 7, bcZ 16 .neq 34 15 0 34]
def refspace_Square_r6 : List SO := [mvZ 17 7, rZ 4 (.assign (ciZ 0)), asZ 5 17]
def refspace_Square_r7 : List SO := [ldZ 18 30 2, ldZ 19 30 3, rZ 20 (.call ⟨(.value (.func (25 : Nat))), #[(tZ 18), (tZ 19)], #[30, 30]⟩), asZ 4 20, rZ 5 (.assign (ciZ 0))]
def refspace_Square_c : SF := ⟨21, (.seq (.reg refspace_Square_r0)
  (.seq (.seq (.reg refspace_Square_r1)
  (.seq (.reg refspace_Square_r2)
  (.cond (tZ 11) (.seq (.reg refspace_Square_r3)
  .ret) .skip)))
  (.seq (.seq (.reg refspace_Square_r4)
  (.seq (.reg refspace_Square_r5)
  (.cond (tZ 16) (.seq (.reg refspace_Square_r6)
  .ret) .skip)))
  (.seq (.reg refspace_Square_r7)
  .ret)))), [.tmp 4, .tmp 5]⟩
theorem refspace_Square_s : slimF Try.prog 9 = some refspace_Square_c := by kernel_rfl
/-- printworks/refspace.Check -/
def refspace_Check_r0 : List SO := [rZ 1 (.box 30 (tZ 0)), rZ 2 (.assign (ciZ 0))]
def refspace_Check_r1 : List SO := [faZ 3 30 1 0, ldZ 4 3 3, bcZ 5 .lss 3 4 0 3, mvZ 6 5, gZ 6 false (faZ 7 30 1 0), gZ 6 false (ldZ 8 3 7), gZ 6 false (bcZ 9 .gtr 3 8 10000 3), rZ 10 (.pick (tZ 6) (.const (.bool true)) (tZ 9)), mvZ 11 10, gZ 11 false (faZ 12 30 1 1), gZ 11 false (ldZ 13 3 12), gZ 11 false (rZ 14 (.binOp .lss 3 (tZ 13) (.const (.int .i64 (-12800))) 3)), rZ 15 (.pick (tZ 11) (.const (.bool true)) (tZ 14)), mvZ 16 15, gZ 16 false (faZ 17 30 1 1), gZ 16 false (ldZ 18 3 17), gZ 16 false (bcZ 19 .gtr 3 18 12800 3), rZ 20 (.pick (tZ 16) (.const (.bool true)) (tZ 19)), mvZ 21 20, gZ 21 false (faZ 22 30 1 2), gZ 21 false (ldZ 23 3 22), gZ 21 false (rZ 24 (.binOp .lss 3 (tZ 23) (.const (.int .i64 (-12800))) 3)), rZ 25 (.pick (tZ 21) (.const (.bool true)) (tZ 24)), mvZ 26 25, gZ 26 false (faZ 27 30 1 2), gZ 26 false (ldZ 28 3 27), gZ 26 false (bcZ 29 .gtr 3 28 12800 3), rZ 30 (.pick (tZ 26) (.const (.bool true)) (tZ 29))]
def refspace_Check_r2 : List SO := [rZ 2 (.assign (ciZ 3))]
def refspace_Check_r3 : List SO := [rZ 2 (.assign (ciZ 0))]
def refspace_Check_c : SF := ⟨31, (.seq (.reg refspace_Check_r0)
  (.seq (.seq (.reg refspace_Check_r1)
  (.cond (tZ 30) (.seq (.reg refspace_Check_r2)
  .ret) .skip))
  (.seq (.reg refspace_Check_r3)
  .ret))), [.tmp 2]⟩
theorem refspace_Check_s : slimF Try.prog 24 = some refspace_Check_c := by kernel_rfl
abbrev refspace_Check_f : Nat := 24
/-- printworks/refspace.Far -/
def refspace_Far_r0 : List SO := [rZ 2 (.box 30 (tZ 0)), rZ 3 (.box 30 (tZ 1)), rZ 4 (.assign (ciZ 0))]
def refspace_Far_r1 : List SO := [faZ 8 30 2 0, ldZ 9 3 8, faZ 10 30 3 0, ldZ 11 3 10, boZ 12 .sub 3 9 11 3, faZ 13 30 2 1, ldZ 14 3 13, faZ 15 30 3 1, ldZ 16 3 15, boZ 17 .sub 3 14 16 3, faZ 18 30 2 2, ldZ 19 3 18, faZ 20 30 3 2, ldZ 21 3 20, boZ 22 .sub 3 19 21 3, asZ 5 12, asZ 6 17, asZ 7 22]
def refspace_Far_a1 : List (List Nat) := [[], [0], [], [2], [1, 3], [], [5], [], [7], [6, 8], [], [10], [], [12], [11, 13], [4, 0, 1, 2, 3, 4], [9, 15, 0, 1, 2, 3, 4, 5, 6, 7, 8, 9, 15], [14, 16, 0, 1, 2, 3, 4, 5, 6, 7, 8, 9, 10, 11, 12, 13, 14, 15, 16]]
def refspace_Far_r2 : List SO := [mvZ 23 5, mvZ 24 5, boZ 25 .mul 3 23 24 3, mvZ 26 6, mvZ 27 6, boZ 28 .mul 3 26 27 3, boZ 29 .add 3 25 28 3, mvZ 30 7, mvZ 31 7, boZ 32 .mul 3 30 31 3, boZ 33 .add 3 29 32 3, asZ 4 33]
def refspace_Far_c : SF := ⟨34, (.seq (.reg refspace_Far_r0)
  (.seq (.regd refspace_Far_r1 refspace_Far_a1)
  (.seq (.reg refspace_Far_r2)
  .ret))), [.tmp 4]⟩
theorem refspace_Far_s : slimF Try.prog 25 = some refspace_Far_c := by kernel_rfl
abbrev refspace_Far_f : Nat := 25
/-- printworks/refspace.Between -/
def refspace_Between_r0 : List SO := [rZ 4 (.box 30 (tZ 0)), rZ 5 (.box 30 (tZ 1)), rZ 6 (.box 3 (tZ 2)), rZ 7 (.box 3 (tZ 3)), rZ 8 (.alloc 30), rZ 9 (.assign (ciZ 0))]
def refspace_Between_r1 : List SO := [ldZ 13 30 4, rZ 14 (.call ⟨(.value (.func (24 : Nat))), #[(tZ 13)], #[30]⟩), asZ 10 14]
def refspace_Between_r2 : List SO := [mvZ 15 10, bcZ 16 .neq 34 15 0 34]
def refspace_Between_r3 : List SO := [rZ 17 (.build 30 #[]), mvZ 18 10, stZ 30 8 17, asZ 9 18]
def refspace_Between_r4 : List SO := [ldZ 19 30 5, rZ 20 (.call ⟨(.value (.func (24 : Nat))), #[(tZ 19)], #[30]⟩), asZ 11 20]
def refspace_Between_r5 : List SO := [mvZ 21 11, bcZ 22 .neq 34 21 0 34]
def refspace_Between_r6 : List SO := [rZ 23 (.build 30 #[]), mvZ 24 11, stZ 30 8 23, asZ 9 24]
def refspace_Between_r7 : List SO := [ldZ 25 3 7, bcZ 26 .lss 3 25 1 3, mvZ 27 26, gZ 27 false (ldZ 28 3 7), gZ 27 false (bcZ 29 .gtr 3 28 65280 3), rZ 30 (.pick (tZ 27) (.const (.bool true)) (tZ 29)), mvZ 31 30, gZ 31 false (ldZ 32 3 6), gZ 31 false (bcZ 33 .lss 3 32 0 3), rZ 34 (.pick (tZ 31) (.const (.bool true)) (tZ 33)), mvZ 35 34, gZ 35 false (ldZ 36 3 6), gZ 35 false (ldZ 37 3 7), gZ 35 false (boZ 38 .gtr 3 36 37 3), rZ 39 (.pick (tZ 35) (.const (.bool true)) (tZ 38))]
def refspace_Between_r8 : List SO := [rZ 40 (.build 30 #[]), stZ 30 8 40, rZ 9 (.assign (ciZ 3))]
def refspace_Between_r9 : List SO := [rZ 41 (.makeFunc (.func (65 : Nat)) #[] #[(tZ 7), (tZ 6)]), asZ 12 41]
def refspace_Between_r10 : List SO := [mvZ 42 12, faZ 43 30 4 0, ldZ 44 3 43, faZ 45 30 5 0, ldZ 46 3 45, rZ 47 (.call ⟨(.value (tZ 42)), #[(tZ 44), (tZ 46)], #[3, 3]⟩), mvZ 48 12, faZ 49 30 4 1, ldZ 50 3 49, faZ 51 30 5 1, ldZ 52 3 51, rZ 53 (.call ⟨(.value (tZ 48)), #[(tZ 50), (tZ 52)], #[3, 3]⟩), mvZ 54 12, faZ 55 30 4 2, ldZ 56 3 55, faZ 57 30 5 2, ldZ 58 3 57, rZ 59 (.call ⟨(.value (tZ 54)), #[(tZ 56), (tZ 58)], #[3, 3]⟩), rZ 60 (.build 30 #[(0, (tZ 47)), (1, (tZ 53)), (2, (tZ 59))]), stZ 30 8 60, rZ 9 (.assign (ciZ 0))]
def refspace_Between_a10 : List (List Nat) := [[], [], [1], [], [3], [0, 2, 4], [], [], [7], [], [9], [6, 8, 10, 5], [], [], [13], [], [15], [12, 14, 16, 11], [5, 11, 17], [18, 17, 0, 1, 2, 3, 4, 5, 6, 7, 8, 9, 10, 11, 12, 13, 14, 15, 16, 17, 18], [19, 0, 1, 2, 3, 4, 5, 6, 7, 8, 9, 10, 11, 12, 13, 14, 15, 16, 17, 18, 19]]
def refspace_Between_c : SF := ⟨61, (.seq (.reg refspace_Between_r0)
  (.seq (.seq (.reg refspace_Between_r1)
  (.seq (.reg refspace_Between_r2)
  (.cond (tZ 16) (.seq (.reg refspace_Between_r3)
  .ret) .skip)))
  (.seq (.seq (.reg refspace_Between_r4)
  (.seq (.reg refspace_Between_r5)
  (.cond (tZ 22) (.seq (.reg refspace_Between_r6)
  .ret) .skip)))
  (.seq (.seq (.reg refspace_Between_r7)
  (.cond (tZ 39) (.seq (.reg refspace_Between_r8)
  .ret) .skip))
  (.seq (.reg refspace_Between_r9)
  (.seq (.regd refspace_Between_r10 refspace_Between_a10)
  .ret)))))), [.cell 8 30, .tmp 9]⟩
theorem refspace_Between_s : slimF Try.prog 54 = some refspace_Between_c := by kernel_rfl
/-- printworks/refspace.Between$1 -/
def refspace_Between_1_r0 : List SO := [rZ 6 (.assign (ciZ 0))]
def refspace_Between_1_r1 : List SO := [ldZ 7 3 2, ldZ 8 3 3, boZ 9 .sub 3 7 8 3, mvZ 10 0, boZ 11 .mul 3 9 10 3, ldZ 12 3 3, mvZ 13 1, boZ 14 .mul 3 12 13 3, boZ 15 .add 3 11 14 3, ldZ 16 3 2, rZ 17 (.call ⟨(.value (.func (56 : Nat))), #[(tZ 15), (tZ 16)], #[3, 3]⟩), asZ 6 17]
def refspace_Between_1_c : SF := ⟨18, (.seq (.reg refspace_Between_1_r0)
  (.seq (.reg refspace_Between_1_r1)
  .ret)), [.tmp 6]⟩
theorem refspace_Between_1_s : slimF Try.prog 65 = some refspace_Between_1_c := by kernel_rfl
def tbl_refspace : List (Nat × SF) := [(9, refspace_Square_c), (24, refspace_Check_c), (25, refspace_Far_c), (54, refspace_Between_c), (65, refspace_Between_1_c)]
theorem tbl_refspace_ok : okT Try.prog tbl_refspace := ⟨refspace_Square_s, refspace_Check_s, refspace_Far_s, refspace_Between_s, refspace_Between_1_s, trivial⟩

end Go.Proofs.Ytkapjajlkpepmaa
namespace Go.Proofs.Ytkapjajlkpepmaa
open Go Go.Lite
set_option linter.unusedVariables false

/-- printworks/inverse.Find -/
def inverse_Find_r0 : List SO := [rZ 2 (.box 28 (tZ 0)), rZ 3 (.box 32 (tZ 1)), rZ 4 (.assign (.const (.slice none 0 0))), rZ 5 (.assign (ciZ 0)), rZ 6 (.assign (ciZ 0))]
def inverse_Find_r1 : List SO := [ldZ 9 28 2, rZ 10 (.call ⟨(.value (.func (19 : Nat))), #[(tZ 9)], #[28]⟩), asZ 7 10]
def inverse_Find_r2 : List SO := [mvZ 11 7, bcZ 12 .neq 34 11 0 34]
def inverse_Find_r3 : List SO := [mvZ 13 7, rZ 4 (.assign (.const (.slice none 0 0))), rZ 5 (.assign (ciZ 0)), asZ 6 13]
def inverse_Find_r4 : List SO := [faZ 14 28 2 1, ldZ 15 22 14, rZ 16 (.call ⟨(.builtin .len), #[(tZ 15)], #[22]⟩), ldZ 17 32 3, rZ 18 (.call ⟨(.value (.func (20 : Nat))), #[(tZ 16), (tZ 17)], #[3, 32]⟩), asZ 8 18]
def inverse_Find_r5 : List SO := [mvZ 19 8, bcZ 20 .neq 34 19 0 34]
def inverse_Find_r6 : List SO := [mvZ 21 8, rZ 4 (.assign (.const (.slice none 0 0))), rZ 5 (.assign (ciZ 0)), asZ 6 21]
def inverse_Find_r7 : List SO := [rZ 22 (.call ⟨(.value (.func (21 : Nat))), #[(tZ 2), (tZ 3)], #[59, 60]⟩), exZ 23 22 0, exZ 24 22 1, exZ 25 22 2, asZ 4 23, asZ 5 24, asZ 6 25]
def inverse_Find_c : SF := ⟨26, (.seq (.reg inverse_Find_r0)
  (.seq (.seq (.reg inverse_Find_r1)
  (.seq (.reg inverse_Find_r2)
  (.cond (tZ 12) (.seq (.reg inverse_Find_r3)
  .ret) .skip)))
  (.seq (.seq (.reg inverse_Find_r4)
  (.seq (.reg inverse_Find_r5)
  (.cond (tZ 20) (.seq (.reg inverse_Find_r6)
  .ret) .skip)))
  (.seq (.reg inverse_Find_r7)
  .ret)))), [.tmp 4, .tmp 5, .tmp 6]⟩
theorem inverse_Find_s : slimF Try.prog 7 = some inverse_Find_c := by kernel_rfl
/-- printworks/inverse.Check -/
def inverse_Check_r0 : List SO := [rZ 3 (.box 32 (tZ 1)), rZ 4 (.assign (ciZ 0))]
def inverse_Check_r1 : List SO := [mvZ 10 0, bcZ 11 .lss 3 10 1 3, mvZ 12 11, gZ 12 false (mvZ 13 0), gZ 12 false (bcZ 14 .gtr 3 13 8 3), rZ 15 (.pick (tZ 12) (.const (.bool true)) (tZ 14))]
def inverse_Check_r2 : List SO := [rZ 4 (.assign (ciZ 1))]
def inverse_Check_r3 : List SO := [faZ 16 32 3 0, ldZ 17 30 16, rZ 18 (.call ⟨(.value (.func (24 : Nat))), #[(tZ 17)], #[30]⟩), asZ 5 18]
def inverse_Check_r4 : List SO := [mvZ 19 5, bcZ 20 .neq 34 19 0 34]
def inverse_Check_r5 : List SO := [mvZ 21 5, asZ 4 21]
def inverse_Check_r6 : List SO := [rZ 6 (.assign (ciZ 0))]
def inverse_Check_r7 : List SO := [faZ 22 32 3 1, ldZ 23 3 22]
def inverse_Check_r8 : List SO := [bcZ 25 .eql 3 23 5 3, asZ 24 25]
def inverse_Check_r9 : List SO := [bcZ 26 .eql 3 23 15 3, asZ 24 26]
def inverse_Check_r10 : List SO := [bcZ 27 .eql 3 23 17 3, asZ 24 27]
def inverse_Check_r11 : List SO := [bcZ 28 .eql 3 23 51 3, asZ 24 28]
def inverse_Check_r12 : List SO := [bcZ 29 .eql 3 23 85 3, asZ 24 29]
def inverse_Check_r13 : List SO := [bcZ 30 .eql 3 23 255 3, asZ 24 30]
def inverse_Check_r14 : List SO := [faZ 31 32 3 1, ldZ 32 3 31, rZ 33 (.binOp .quo 3 (ciZ 255) (tZ 32) 3), bcZ 34 .add 3 33 1 3, asZ 6 34]
def inverse_Check_r15 : List SO := [rZ 4 (.assign (ciZ 3))]
def inverse_Check_r16 : List SO := [faZ 35 32 3 2, ldZ 36 3 35, bcZ 37 .lss 3 36 0 3, mvZ 38 37, gZ 38 false (faZ 39 32 3 2), gZ 38 false (ldZ 40 3 39), gZ 38 false (bcZ 41 .gtr 3 40 2040 3), rZ 42 (.pick (tZ 38) (.const (.bool true)) (tZ 41))]
def inverse_Check_r17 : List SO := [rZ 4 (.assign (ciZ 3))]
def inverse_Check_r18 : List SO := [faZ 43 32 3 3, ldZ 44 24 43, mvZ 45 0, rZ 46 (.call ⟨(.value (.func (22 : Nat))), #[(tZ 44), (tZ 45)], #[24, 3]⟩), asZ 7 46]
def inverse_Check_r19 : List SO := [mvZ 47 7, bcZ 48 .neq 34 47 0 34]
def inverse_Check_r20 : List SO := [mvZ 49 7, asZ 4 49]
def inverse_Check_r21 : List SO := [faZ 50 32 3 4, ldZ 51 24 50, mvZ 52 0, rZ 53 (.call ⟨(.value (.func (22 : Nat))), #[(tZ 51), (tZ 52)], #[24, 3]⟩), asZ 8 53]
def inverse_Check_r22 : List SO := [mvZ 54 8, bcZ 55 .neq 34 54 0 34]
def inverse_Check_r23 : List SO := [mvZ 56 8, asZ 4 56]
def inverse_Check_r24 : List SO := [rZ 9 (.assign (ciZ 1))]
def inverse_Check_r25 : List SO := [mvZ 57 0, rZ 58 (.move (ciZ 0))]
def inverse_Check_r26 : List SO := [boZ 59 .lss 3 58 57 3]
def inverse_Check_r27 : List SO := [mvZ 60 9, mvZ 61 6, boZ 62 .mul 3 60 61 3, asZ 9 62]
def inverse_Check_r28 : List SO := [bcZ 63 .add 3 58 1 3, mvZ 58 63]
def inverse_Check_r29 : List SO := [mvZ 64 9, bcZ 65 .gtr 3 64 20000 3]
def inverse_Check_r30 : List SO := [rZ 4 (.assign (ciZ 2))]
def inverse_Check_r31 : List SO := [rZ 4 (.assign (ciZ 0))]
def inverse_Check_c : SF := ⟨66, (.seq (.reg inverse_Check_r0)
  (.seq (.seq (.reg inverse_Check_r1)
  (.cond (tZ 15) (.seq (.reg inverse_Check_r2)
  .ret) .skip))
  (.seq (.seq (.reg inverse_Check_r3)
  (.seq (.reg inverse_Check_r4)
  (.cond (tZ 20) (.seq (.reg inverse_Check_r5)
  .ret) .skip)))
  (.seq (.reg inverse_Check_r6)
  (.seq (.seq (.reg inverse_Check_r7)
  (.block 0 (.seq (.seq (.reg inverse_Check_r8)
  (.cond (tZ 24) .skip (.seq (.reg inverse_Check_r9)
  (.cond (tZ 24) .skip (.seq (.reg inverse_Check_r10)
  (.cond (tZ 24) .skip (.seq (.reg inverse_Check_r11)
  (.cond (tZ 24) .skip (.seq (.reg inverse_Check_r12)
  (.cond (tZ 24) .skip (.reg inverse_Check_r13)))))))))))
  (.cond (tZ 24) (.reg inverse_Check_r14) (.seq (.reg inverse_Check_r15)
  .ret)))))
  (.seq (.seq (.reg inverse_Check_r16)
  (.cond (tZ 42) (.seq (.reg inverse_Check_r17)
  .ret) .skip))
  (.seq (.seq (.reg inverse_Check_r18)
  (.seq (.reg inverse_Check_r19)
  (.cond (tZ 48) (.seq (.reg inverse_Check_r20)
  .ret) .skip)))
  (.seq (.seq (.reg inverse_Check_r21)
  (.seq (.reg inverse_Check_r22)
  (.cond (tZ 55) (.seq (.reg inverse_Check_r23)
  .ret) .skip)))
  (.seq (.reg inverse_Check_r24)
  (.seq (.seq (.reg inverse_Check_r25)
  (.block 1 (.loop (.seq (.reg inverse_Check_r26)
  (.seq (.cond (tZ 59) .skip (.exit 1))
  (.seq (.block 2 (.reg inverse_Check_r27))
  (.reg inverse_Check_r28)))))))
  (.seq (.seq (.reg inverse_Check_r29)
  (.cond (tZ 65) (.seq (.reg inverse_Check_r30)
  .ret) .skip))
  (.seq (.reg inverse_Check_r31)
  .ret)))))))))))), [.tmp 4]⟩
theorem inverse_Check_s : slimF Try.prog 20 = some inverse_Check_c := by kernel_rfl
abbrev inverse_Check_f : Nat := 20
/-- printworks/inverse.Quick -/
def inverse_Quick_r0 : List SO := [rZ 4 (.assign (.const (.slice none 0 0))), rZ 5 (.assign (ciZ 0)), rZ 6 (.assign (ciZ 0))]
def inverse_Quick_r1 : List SO := [mvZ 10 0, rZ 11 (.nilCheck (tZ 10)), faZ 12 28 11 1, ldZ 13 22 12, rZ 14 (.call ⟨(.builtin .len), #[(tZ 13)], #[22]⟩), asZ 7 14]
def inverse_Quick_r2 : List SO := [mvZ 15 0, mvZ 16 1, mvZ 17 7, rZ 18 (.makeSlice 24 (tZ 17) (tZ 17)), mvZ 19 7, rZ 20 (.makeSlice 24 (tZ 19) (tZ 19)), mvZ 21 7, rZ 22 (.makeSlice 24 (tZ 21) (tZ 21)), mvZ 23 7, rZ 24 (.makeSlice 24 (tZ 23) (tZ 23)), rZ 25 (.build 89 #[(0, (tZ 15)), (1, (tZ 16)), (4, (tZ 18)), (5, (tZ 20)), (6, (tZ 22)), (7, (tZ 24))]), rZ 26 (.box 89 (tZ 25)), asZ 8 26]
def inverse_Quick_a2 : List (List Nat) := [[], [], [], [2, 2], [], [4, 4], [], [6, 6], [], [8, 8], [0, 1, 3, 5, 7, 9], [10], [11, 0, 1, 2, 3, 4, 5, 6, 7, 8, 9, 10, 11]]
def inverse_Quick_r3 : List SO := [mvZ 27 7, rZ 28 (.move (ciZ 0))]
def inverse_Quick_r4 : List SO := [boZ 29 .lss 3 28 27 3]
def inverse_Quick_r5 : List SO := [mvZ 30 28, asZ 9 30]
def inverse_Quick_r6 : List SO := [mvZ 31 8, rZ 32 (.nilCheck (tZ 31)), faZ 33 89 32 6, ldZ 34 24 33, mvZ 35 9, mvZ 36 8, rZ 37 (.nilCheck (tZ 36)), faZ 38 89 37 7, ldZ 39 24 38, mvZ 40 9, mvZ 41 1, rZ 42 (.nilCheck (tZ 41)), faZ 43 32 42 3, ldZ 44 24 43, mvZ 45 9, iaZ 46 24 44 45, ldZ 47 3 46, mvZ 48 1, rZ 49 (.nilCheck (tZ 48)), faZ 50 32 49 1, ldZ 51 3 50, boZ 52 .add 3 47 51 3, bcZ 53 .sub 3 52 1 3, mvZ 54 1, rZ 55 (.nilCheck (tZ 54)), faZ 56 32 55 1, ldZ 57 3 56, boZ 58 .quo 3 53 57 3, mvZ 59 1, rZ 60 (.nilCheck (tZ 59)), faZ 61 32 60 4, ldZ 62 24 61, mvZ 63 9, iaZ 64 24 62 63, ldZ 65 3 64, mvZ 66 1, rZ 67 (.nilCheck (tZ 66)), faZ 68 32 67 1, ldZ 69 3 68, boZ 70 .quo 3 65 69 3, iaZ 71 24 34 35, stZ 3 71 58, iaZ 72 24 39 40, stZ 3 72 70]
def inverse_Quick_a6 : List (List Nat) := [[], [0], [1], [2], [], [], [5], [6], [7], [], [], [10], [11], [12], [], [13, 14], [15], [], [17], [18], [19], [16, 20], [21], [], [23], [24], [25], [22, 26], [], [28], [29], [30], [], [31, 32], [33], [], [35], [36], [37], [34, 38], [3, 4, 0, 1, 2, 3, 4, 8, 10, 11, 12, 13, 14, 15, 16, 17, 18, 19, 20, 21, 22, 23, 24, 25, 26, 27, 31, 34, 38], [40, 27, 0, 1, 2, 3, 4, 8, 10, 11, 12, 13, 14, 15, 16, 17, 18, 19, 20, 21, 22, 23, 24, 25, 26, 27, 31, 34, 38], [8, 9, 0, 1, 2, 3, 4, 5, 6, 7, 8, 9, 10, 11, 12, 13, 14, 15, 16, 17, 18, 19, 20, 21, 22, 23, 24, 25, 26, 27, 28, 29, 30, 31, 32, 33, 34, 35, 36, 37, 38, 39, 40, 41], [42, 39, 41, 0, 1, 2, 3, 4, 5, 6, 7, 8, 9, 10, 11, 12, 13, 14, 15, 16, 17, 18, 19, 20, 21, 22, 23, 24, 25, 26, 27, 28, 29, 30, 31, 32, 33, 34, 35, 36, 37, 38, 39, 40, 41]]
def inverse_Quick_r7 : List SO := [mvZ 73 8, rZ 74 (.nilCheck (tZ 73)), faZ 75 89 74 6, ldZ 76 24 75, mvZ 77 9, iaZ 78 24 76 77, ldZ 79 3 78, mvZ 80 8, rZ 81 (.nilCheck (tZ 80)), faZ 82 89 81 7, ldZ 83 24 82, mvZ 84 9, iaZ 85 24 83 84, ldZ 86 3 85, boZ 87 .gtr 3 79 86 3]
def inverse_Quick_a7 : List (List Nat) := [[], [0], [1], [2], [], [3, 4], [5], [], [7], [8], [9], [], [10, 11], [12], [6, 13]]
def inverse_Quick_r8 : List SO := [rZ 4 (.assign (.const (.slice none 0 0))), rZ 5 (.assign (ciZ 0)), rZ 6 (.assign (ciZ 8))]
def inverse_Quick_r9 : List SO := [bcZ 88 .add 3 28 1 3, mvZ 28 88]
def inverse_Quick_r10 : List SO := [mvZ 89 8, rZ 90 (.call ⟨(.value (.func (45 : Nat))), #[(tZ 89)], #[87]⟩)]
def inverse_Quick_r11 : List SO := [mvZ 91 8, rZ 92 (.nilCheck (tZ 91)), faZ 93 89 92 2, ldZ 94 24 93, rZ 95 (.binOp .eql 24 (tZ 94) (.const (.slice none 0 0)) 24)]
def inverse_Quick_r12 : List SO := [rZ 4 (.assign (.const (.slice none 0 0))), rZ 5 (.assign (ciZ 0)), rZ 6 (.assign (ciZ 8))]
def inverse_Quick_r13 : List SO := [mvZ 96 8, rZ 97 (.nilCheck (tZ 96)), faZ 98 89 97 2, ldZ 99 24 98, mvZ 100 8, rZ 101 (.nilCheck (tZ 100)), faZ 102 89 101 3, ldZ 103 3 102, asZ 4 99, asZ 5 103, rZ 6 (.assign (ciZ 0))]
def inverse_Quick_a13 : List (List Nat) := [[], [0], [1], [2], [], [4], [5], [6], [3, 0, 1, 2, 3], [7, 8, 0, 1, 2, 3, 4, 5, 6, 7, 8], [9, 0, 1, 2, 3, 4, 5, 6, 7, 8, 9]]
def inverse_Quick_c : SF := ⟨104, (.seq (.reg inverse_Quick_r0)
  (.seq (.reg inverse_Quick_r1)
  (.seq (.regd inverse_Quick_r2 inverse_Quick_a2)
  (.seq (.seq (.reg inverse_Quick_r3)
  (.block 0 (.loop (.seq (.reg inverse_Quick_r4)
  (.seq (.cond (tZ 29) .skip (.exit 0))
  (.seq (.block 1 (.seq (.reg inverse_Quick_r5)
  (.seq (.regd inverse_Quick_r6 inverse_Quick_a6)
  (.seq (.regd inverse_Quick_r7 inverse_Quick_a7)
  (.cond (tZ 87) (.seq (.reg inverse_Quick_r8)
  .ret) .skip)))))
  (.reg inverse_Quick_r9)))))))
  (.seq (.seq (.reg inverse_Quick_r10)
  (.seq (.reg inverse_Quick_r11)
  (.cond (tZ 95) (.seq (.reg inverse_Quick_r12)
  .ret) .skip)))
  (.seq (.regd inverse_Quick_r13 inverse_Quick_a13)
  .ret)))))), [.tmp 4, .tmp 5, .tmp 6]⟩
theorem inverse_Quick_s : slimF Try.prog 21 = some inverse_Quick_c := by kernel_rfl
abbrev inverse_Quick_f : Nat := 21
/-- (*printworks/inverse.search).run -/
def __inverse_search__run_r0 : List SO := [rZ 2 (.assign (ciZ 0)), rZ 3 (.assign (ciZ 0)), rZ 4 (.assign (ciZ 0))]
def __inverse_search__run_r1 : List SO := [mvZ 14 0, rZ 15 (.nilCheck (tZ 14)), faZ 16 89 15 6, ldZ 17 24 16, rZ 18 (.call ⟨(.builtin .len), #[(tZ 17)], #[24]⟩), rZ 19 (.move (ciZ 0))]
def __inverse_search__run_r2 : List SO := [boZ 20 .lss 3 19 18 3]
def __inverse_search__run_r3 : List SO := [mvZ 21 19, asZ 5 21]
def __inverse_search__run_r4 : List SO := [mvZ 22 2, mvZ 23 0, rZ 24 (.nilCheck (tZ 23)), faZ 25 89 24 6, ldZ 26 24 25, mvZ 27 5, iaZ 28 24 26 27, ldZ 29 3 28, mvZ 30 0, rZ 31 (.nilCheck (tZ 30)), faZ 32 89 31 1, ldZ 33 60 32, rZ 34 (.nilCheck (tZ 33)), faZ 35 32 34 1, ldZ 36 3 35, boZ 37 .mul 3 29 36 3, boZ 38 .add 3 22 37 3, asZ 2 38]
def __inverse_search__run_a4 : List (List Nat) := [[], [], [1], [2], [3], [], [4, 5], [6], [], [8], [9], [10], [11], [12], [13], [7, 14], [0, 15], [16, 0, 1, 2, 3, 4, 5, 6, 7, 8, 9, 10, 11, 12, 13, 14, 15, 16]]
def __inverse_search__run_r5 : List SO := [mvZ 39 0, rZ 40 (.nilCheck (tZ 39)), faZ 41 89 40 7, ldZ 42 24 41, mvZ 43 5, iaZ 44 24 42 43, ldZ 45 3 44, mvZ 46 0, rZ 47 (.nilCheck (tZ 46)), faZ 48 89 47 6, ldZ 49 24 48, mvZ 50 5, iaZ 51 24 49 50, ldZ 52 3 51, boZ 53 .sub 3 45 52 3, asZ 6 53]
def __inverse_search__run_a5 : List (List Nat) := [[], [0], [1], [2], [], [3, 4], [5], [], [7], [8], [9], [], [10, 11], [12], [6, 13], [14, 0, 1, 2, 3, 4, 5, 6, 7, 8, 9, 10, 11, 12, 13, 14]]
def __inverse_search__run_r6 : List SO := [mvZ 54 6, mvZ 55 3, boZ 56 .gtr 3 54 55 3]
def __inverse_search__run_r7 : List SO := [mvZ 57 6, mvZ 58 5, asZ 3 57, asZ 4 58]
def __inverse_search__run_r8 : List SO := [bcZ 59 .add 3 19 1 3, mvZ 19 59]
def __inverse_search__run_r9 : List SO := [mvZ 60 2, mvZ 61 0, rZ 62 (.nilCheck (tZ 61)), faZ 63 89 62 1, ldZ 64 60 63, rZ 65 (.nilCheck (tZ 64)), faZ 66 32 65 2, ldZ 67 3 66, boZ 68 .gtr 3 60 67 3]
def __inverse_search__run_r10 : List SO := [mvZ 69 0, rZ 70 (.nilCheck (tZ 69)), faZ 71 89 70 2, ldZ 72 24 71, rZ 73 (.binOp .neq 24 (tZ 72) (.const (.slice none 0 0)) 24)]
def __inverse_search__run_r11 : List SO := [mvZ 74 0, rZ 75 (.call ⟨(.value (.func (58 : Nat))), #[(tZ 74)], #[87]⟩), asZ 7 75]
def __inverse_search__run_r12 : List SO := [mvZ 76 7, mvZ 77 0, rZ 78 (.nilCheck (tZ 77)), faZ 79 89 78 3, ldZ 80 3 79, boZ 81 .gtr 3 76 80 3, mvZ 82 81, gZ 82 false (mvZ 83 7), gZ 82 false (mvZ 84 0), gZ 82 false (rZ 85 (.nilCheck (tZ 84))), gZ 82 false (faZ 86 89 85 3), gZ 82 false (ldZ 87 3 86), gZ 82 false (boZ 88 .eql 3 83 87 3), gZ 82 false (mvZ 89 88), gZ 89 true (mvZ 90 0), gZ 89 true (rZ 91 (.call ⟨(.value (.func (59 : Nat))), #[(tZ 90)], #[87]⟩)), gZ 89 true (rZ 92 (.unOp .not 4 (tZ 91))), gZ 82 false (rZ 93 (.pick (tZ 89) (tZ 92) (.const (.bool false)))), rZ 94 (.pick (tZ 82) (.const (.bool true)) (tZ 93))]
def __inverse_search__run_r13 : List SO := [mvZ 95 3, bcZ 96 .eql 3 95 0 3]
def __inverse_search__run_r14 : List SO := [mvZ 97 0, rZ 98 (.nilCheck (tZ 97)), faZ 99 89 98 6, ldZ 100 24 99, rZ 101 (.call ⟨(.builtin .len), #[(tZ 100)], #[24]⟩), rZ 102 (.makeSlice 24 (tZ 101) (tZ 101)), asZ 8 102]
def __inverse_search__run_r15 : List SO := [mvZ 103 0, rZ 104 (.nilCheck (tZ 103)), faZ 105 89 104 6, ldZ 106 24 105, rZ 107 (.call ⟨(.builtin .len), #[(tZ 106)], #[24]⟩), rZ 108 (.move (ciZ 0))]
def __inverse_search__run_r16 : List SO := [boZ 109 .lss 3 108 107 3]
def __inverse_search__run_r17 : List SO := [mvZ 110 108, iaZ 111 24 106 108, ldZ 112 3 111, asZ 9 110, asZ 10 112]
def __inverse_search__run_r18 : List SO := [mvZ 113 8, mvZ 114 9, mvZ 115 10, mvZ 116 0, rZ 117 (.nilCheck (tZ 116)), faZ 118 89 117 1, ldZ 119 60 118, rZ 120 (.nilCheck (tZ 119)), faZ 121 32 120 1, ldZ 122 3 121, boZ 123 .mul 3 115 122 3, iaZ 124 24 113 114, stZ 3 124 123]
def __inverse_search__run_r19 : List SO := [bcZ 125 .add 3 108 1 3, mvZ 108 125]
def __inverse_search__run_r20 : List SO := [mvZ 126 0, rZ 127 (.nilCheck (tZ 126)), faZ 128 89 127 0, ldZ 129 59 128, mvZ 130 8, rZ 131 (.call ⟨(.value (.func (23 : Nat))), #[(tZ 129), (tZ 130)], #[59, 24]⟩), mvZ 132 0, rZ 133 (.nilCheck (tZ 132)), faZ 134 89 133 1, ldZ 135 60 134, rZ 136 (.nilCheck (tZ 135)), faZ 137 32 136 0, ldZ 138 30 137, rZ 139 (.call ⟨(.value (.func (25 : Nat))), #[(tZ 131), (tZ 138)], #[30, 30]⟩), asZ 11 139]
def __inverse_search__run_a20 : List (List Nat) := [[], [0], [1], [2], [], [3, 4], [], [6], [7], [8], [9], [10], [11], [5, 12, 5], [13, 13, 0, 1, 2, 3, 4, 5, 6, 7, 8, 9, 10, 11, 12, 13]]
def __inverse_search__run_r21 : List SO := [mvZ 140 0, rZ 141 (.nilCheck (tZ 140)), faZ 142 89 141 2, ldZ 143 24 142, rZ 144 (.binOp .eql 24 (tZ 143) (.const (.slice none 0 0)) 24), mvZ 145 144, gZ 145 false (mvZ 146 11), gZ 145 false (mvZ 147 0), gZ 145 false (rZ 148 (.nilCheck (tZ 147))), gZ 145 false (faZ 149 89 148 3), gZ 145 false (ldZ 150 3 149), gZ 145 false (boZ 151 .lss 3 146 150 3), rZ 152 (.pick (tZ 145) (.const (.bool true)) (tZ 151)), mvZ 153 152, gZ 153 false (mvZ 154 11), gZ 153 false (mvZ 155 0), gZ 153 false (rZ 156 (.nilCheck (tZ 155))), gZ 153 false (faZ 157 89 156 3), gZ 153 false (ldZ 158 3 157), gZ 153 false (boZ 159 .eql 3 154 158 3), gZ 153 false (mvZ 160 159), gZ 160 true (mvZ 161 0), gZ 160 true (rZ 162 (.call ⟨(.value (.func (59 : Nat))), #[(tZ 161)], #[87]⟩)), gZ 153 false (rZ 163 (.pick (tZ 160) (tZ 162) (.const (.bool false)))), rZ 164 (.pick (tZ 153) (.const (.bool true)) (tZ 163))]
def __inverse_search__run_r22 : List SO := [mvZ 165 0, mvZ 166 0, mvZ 167 8, mvZ 168 11, rZ 169 (.nilCheck (tZ 165)), faZ 170 89 169 2, stZ 24 170 167, rZ 171 (.nilCheck (tZ 166)), faZ 172 89 171 3, stZ 3 172 168]
def __inverse_search__run_r23 : List SO := [mvZ 173 0, rZ 174 (.nilCheck (tZ 173)), faZ 175 89 174 6, ldZ 176 24 175, mvZ 177 4, iaZ 178 24 176 177, ldZ 179 3 178, mvZ 180 0, rZ 181 (.nilCheck (tZ 180)), faZ 182 89 181 7, ldZ 183 24 182, mvZ 184 4, iaZ 185 24 183 184, ldZ 186 3 185, asZ 12 179, asZ 13 186]
def __inverse_search__run_a23 : List (List Nat) := [[], [0], [1], [2], [], [3, 4], [5], [], [7], [8], [9], [], [10, 11], [12], [6, 0, 1, 2, 3, 4, 5, 6], [13, 14, 0, 1, 2, 3, 4, 5, 6, 7, 8, 9, 10, 11, 12, 13, 14]]
def __inverse_search__run_r24 : List SO := [mvZ 187 0, rZ 188 (.nilCheck (tZ 187)), faZ 189 89 188 7, ldZ 190 24 189, mvZ 191 4, mvZ 192 12, mvZ 193 13, boZ 194 .add 3 192 193 3, bcZ 195 .quo 3 194 2 3, iaZ 196 24 190 191, stZ 3 196 195]
def __inverse_search__run_r25 : List SO := [mvZ 197 0, rZ 198 (.call ⟨(.value (.func (45 : Nat))), #[(tZ 197)], #[87]⟩)]
def __inverse_search__run_r26 : List SO := [mvZ 199 0, rZ 200 (.nilCheck (tZ 199)), faZ 201 89 200 6, ldZ 202 24 201, mvZ 203 4, mvZ 204 0, rZ 205 (.nilCheck (tZ 204)), faZ 206 89 205 7, ldZ 207 24 206, mvZ 208 4, mvZ 209 12, mvZ 210 13, boZ 211 .add 3 209 210 3, bcZ 212 .quo 3 211 2 3, bcZ 213 .add 3 212 1 3, mvZ 214 13, iaZ 215 24 202 203, stZ 3 215 213, iaZ 216 24 207 208, stZ 3 216 214]
def __inverse_search__run_a26 : List (List Nat) := [[], [0], [1], [2], [], [], [5], [6], [7], [], [], [], [10, 11], [12], [13], [], [3, 4, 0, 1, 2, 3, 4, 8, 10, 11, 12, 13, 14], [16, 14, 0, 1, 2, 3, 4, 8, 10, 11, 12, 13, 14], [8, 9, 0, 1, 2, 3, 4, 5, 6, 7, 8, 9, 10, 11, 12, 13, 14, 15, 16, 17], [18, 15, 17, 0, 1, 2, 3, 4, 5, 6, 7, 8, 9, 10, 11, 12, 13, 14, 15, 16, 17]]
def __inverse_search__run_r27 : List SO := [mvZ 217 0, rZ 218 (.call ⟨(.value (.func (45 : Nat))), #[(tZ 217)], #[87]⟩)]
def __inverse_search__run_r28 : List SO := [mvZ 219 0, rZ 220 (.nilCheck (tZ 219)), faZ 221 89 220 6, ldZ 222 24 221, mvZ 223 4, mvZ 224 12, iaZ 225 24 222 223, stZ 3 225 224]
def __inverse_search__run_c : SF := ⟨226, (.seq (.reg __inverse_search__run_r0)
  (.seq (.seq (.reg __inverse_search__run_r1)
  (.block 0 (.loop (.seq (.reg __inverse_search__run_r2)
  (.seq (.cond (tZ 20) .skip (.exit 0))
  (.seq (.block 1 (.seq (.reg __inverse_search__run_r3)
  (.seq (.regd __inverse_search__run_r4 __inverse_search__run_a4)
  (.seq (.regd __inverse_search__run_r5 __inverse_search__run_a5)
  (.seq (.reg __inverse_search__run_r6)
  (.cond (tZ 56) (.reg __inverse_search__run_r7) .skip))))))
  (.reg __inverse_search__run_r8)))))))
  (.seq (.seq (.reg __inverse_search__run_r9)
  (.cond (tZ 68) .ret .skip))
  (.seq (.seq (.reg __inverse_search__run_r10)
  (.cond (tZ 73) (.seq (.reg __inverse_search__run_r11)
  (.seq (.reg __inverse_search__run_r12)
  (.cond (tZ 94) .ret .skip))) .skip))
  (.seq (.seq (.reg __inverse_search__run_r13)
  (.cond (tZ 96) (.seq (.reg __inverse_search__run_r14)
  (.seq (.seq (.reg __inverse_search__run_r15)
  (.block 2 (.loop (.seq (.reg __inverse_search__run_r16)
  (.seq (.cond (tZ 109) .skip (.exit 2))
  (.seq (.block 3 (.seq (.reg __inverse_search__run_r17)
  (.reg __inverse_search__run_r18)))
  (.reg __inverse_search__run_r19)))))))
  (.seq (.regd __inverse_search__run_r20 __inverse_search__run_a20)
  (.seq (.seq (.reg __inverse_search__run_r21)
  (.cond (tZ 164) (.reg __inverse_search__run_r22) .skip))
  .ret)))) .skip))
  (.seq (.regd __inverse_search__run_r23 __inverse_search__run_a23)
  (.seq (.reg __inverse_search__run_r24)
  (.seq (.reg __inverse_search__run_r25)
  (.seq (.regd __inverse_search__run_r26 __inverse_search__run_a26)
  (.seq (.reg __inverse_search__run_r27)
  (.reg __inverse_search__run_r28))))))))))), []⟩
theorem __inverse_search__run_s : slimF Try.prog 45 = some __inverse_search__run_c := by kernel_rfl
abbrev __inverse_search__run_f : Nat := 45
/-- (*printworks/inverse.search).bound -/
def __inverse_search__bound_r0 : List SO := [rZ 2 (.assign (ciZ 0))]
def __inverse_search__bound_r1 : List SO := [mvZ 10 0, rZ 11 (.nilCheck (tZ 10)), faZ 12 89 11 6, ldZ 13 24 12, rZ 14 (.call ⟨(.builtin .len), #[(tZ 13)], #[24]⟩), rZ 15 (.move (ciZ 0))]
def __inverse_search__bound_r2 : List SO := [boZ 16 .lss 3 15 14 3]
def __inverse_search__bound_r3 : List SO := [mvZ 17 15, asZ 3 17]
def __inverse_search__bound_r4 : List SO := [mvZ 18 0, rZ 19 (.nilCheck (tZ 18)), faZ 20 89 19 4, ldZ 21 24 20, mvZ 22 3, mvZ 23 0, rZ 24 (.nilCheck (tZ 23)), faZ 25 89 24 0, ldZ 26 59 25, mvZ 27 3, mvZ 28 0, rZ 29 (.nilCheck (tZ 28)), faZ 30 89 29 6, ldZ 31 24 30, mvZ 32 3, iaZ 33 24 31 32, ldZ 34 3 33, mvZ 35 0, rZ 36 (.nilCheck (tZ 35)), faZ 37 89 36 1, ldZ 38 60 37, rZ 39 (.nilCheck (tZ 38)), faZ 40 32 39 1, ldZ 41 3 40, boZ 42 .mul 3 34 41 3, rZ 43 (.call ⟨(.value (.func (60 : Nat))), #[(tZ 26), (tZ 27), (tZ 42)], #[59, 3, 3]⟩), iaZ 44 24 21 22, stZ 3 44 43]
def __inverse_search__bound_a4 : List (List Nat) := [[], [0], [1], [2], [], [], [5], [6], [7], [], [], [10], [11], [12], [], [13, 14], [15], [], [17], [18], [19], [20], [21], [22], [16, 23], [8, 9, 24], [3, 4, 0, 1, 2, 3, 4, 5, 6, 7, 8, 9, 10, 11, 12, 13, 14, 15, 16, 17, 18, 19, 20, 21, 22, 23, 24, 25], [26, 25, 25, 0, 1, 2, 3, 4, 5, 6, 7, 8, 9, 10, 11, 12, 13, 14, 15, 16, 17, 18, 19, 20, 21, 22, 23, 24, 25]]
def __inverse_search__bound_r5 : List SO := [mvZ 45 0, rZ 46 (.nilCheck (tZ 45)), faZ 47 89 46 5, ldZ 48 24 47, mvZ 49 3, mvZ 50 0, rZ 51 (.nilCheck (tZ 50)), faZ 52 89 51 0, ldZ 53 59 52, mvZ 54 3, mvZ 55 0, rZ 56 (.nilCheck (tZ 55)), faZ 57 89 56 7, ldZ 58 24 57, mvZ 59 3, iaZ 60 24 58 59, ldZ 61 3 60, mvZ 62 0, rZ 63 (.nilCheck (tZ 62)), faZ 64 89 63 1, ldZ 65 60 64, rZ 66 (.nilCheck (tZ 65)), faZ 67 32 66 1, ldZ 68 3 67, boZ 69 .mul 3 61 68 3, rZ 70 (.call ⟨(.value (.func (60 : Nat))), #[(tZ 53), (tZ 54), (tZ 69)], #[59, 3, 3]⟩), iaZ 71 24 48 49, stZ 3 71 70]
def __inverse_search__bound_a5 : List (List Nat) := [[], [0], [1], [2], [], [], [5], [6], [7], [], [], [10], [11], [12], [], [13, 14], [15], [], [17], [18], [19], [20], [21], [22], [16, 23], [8, 9, 24], [3, 4, 0, 1, 2, 3, 4, 5, 6, 7, 8, 9, 10, 11, 12, 13, 14, 15, 16, 17, 18, 19, 20, 21, 22, 23, 24, 25], [26, 25, 25, 0, 1, 2, 3, 4, 5, 6, 7, 8, 9, 10, 11, 12, 13, 14, 15, 16, 17, 18, 19, 20, 21, 22, 23, 24, 25]]
def __inverse_search__bound_r6 : List SO := [bcZ 72 .add 3 15 1 3, mvZ 15 72]
def __inverse_search__bound_r7 : List SO := [mvZ 74 0, rZ 75 (.nilCheck (tZ 74)), faZ 76 89 75 0, ldZ 77 59 76, rZ 78 (.nilCheck (tZ 77)), faZ 79 28 78 3, mvZ 80 0, rZ 81 (.nilCheck (tZ 80)), faZ 82 89 81 4, ldZ 83 24 82, mvZ 84 0, rZ 85 (.nilCheck (tZ 84)), faZ 86 89 85 5, ldZ 87 24 86, rZ 88 (.call ⟨(.value (.func (67 : Nat))), #[(tZ 79), (tZ 83), (tZ 87)], #[77, 24, 24]⟩), mvZ 73 88, exZ 89 73 0, exZ 90 73 1, asZ 4 89, asZ 5 90]
def __inverse_search__bound_a7 : List (List Nat) := [[], [0], [1], [2], [3], [4], [], [6], [7], [8], [], [10], [11], [12], [5, 9, 13], [14], [15], [15], [16, 14, 0, 1, 2, 3, 4, 5, 6, 7, 8, 9, 10, 11, 12, 13, 14, 15, 16], [17, 18, 0, 1, 2, 3, 4, 5, 6, 7, 8, 9, 10, 11, 12, 13, 14, 15, 16, 17, 18]]
def __inverse_search__bound_r8 : List SO := [rZ 6 (.assign (ciZ 0))]
def __inverse_search__bound_r9 : List SO := [mvZ 91 0, rZ 92 (.nilCheck (tZ 91)), faZ 93 89 92 1, ldZ 94 60 93, rZ 95 (.nilCheck (tZ 94)), faZ 96 32 95 0, faZ 97 30 96 0, ldZ 98 3 97, mvZ 99 0, rZ 100 (.nilCheck (tZ 99)), faZ 101 89 100 1, ldZ 102 60 101, rZ 103 (.nilCheck (tZ 102)), faZ 104 32 103 0, faZ 105 30 104 1, ldZ 106 3 105, mvZ 107 0, rZ 108 (.nilCheck (tZ 107)), faZ 109 89 108 1, ldZ 110 60 109, rZ 111 (.nilCheck (tZ 110)), faZ 112 32 111 0, faZ 113 30 112 2, ldZ 114 3 113, rZ 115 (.build 93 #[(0, (tZ 98)), (1, (tZ 106)), (2, (tZ 114))]), rZ 116 (.move (ciZ 0))]
def __inverse_search__bound_a9 : List (List Nat) := [[], [0], [1], [2], [3], [4], [5], [6], [], [8], [9], [10], [11], [12], [13], [14], [], [16], [17], [18], [19], [20], [21], [22], [7, 15, 23], []]
def __inverse_search__bound_r10 : List SO := [bcZ 117 .lss 3 116 3 3]
def __inverse_search__bound_r11 : List SO := [mvZ 118 116, rZ 119 (.index 93 (tZ 115) (tZ 116)), asZ 7 118, asZ 8 119]
def __inverse_search__bound_r12 : List SO := [mvZ 120 4, mvZ 121 7, iaZ 122 24 120 121, ldZ 123 3 122, mvZ 124 8, boZ 125 .sub 3 123 124 3, mvZ 126 8, mvZ 127 5, mvZ 128 7, iaZ 129 24 127 128, ldZ 130 3 129, boZ 131 .sub 3 126 130 3, rZ 132 (.call ⟨(.builtin .max), #[(tZ 125), (tZ 131), (ciZ 0)], #[3, 3, 3]⟩), asZ 9 132]
def __inverse_search__bound_a12 : List (List Nat) := [[], [], [0, 1], [2], [], [3, 4], [], [], [], [7, 8], [9], [6, 10], [5, 11], [12, 0, 1, 2, 3, 4, 5, 6, 7, 8, 9, 10, 11, 12]]
def __inverse_search__bound_r13 : List SO := [mvZ 133 6, mvZ 134 9, mvZ 135 9, boZ 136 .mul 3 134 135 3, boZ 137 .add 3 133 136 3, asZ 6 137]
def __inverse_search__bound_r14 : List SO := [bcZ 138 .add 3 116 1 3, mvZ 116 138]
def __inverse_search__bound_r15 : List SO := [mvZ 139 6, asZ 2 139]
def __inverse_search__bound_c : SF := ⟨140, (.seq (.reg __inverse_search__bound_r0)
  (.seq (.seq (.reg __inverse_search__bound_r1)
  (.block 0 (.loop (.seq (.reg __inverse_search__bound_r2)
  (.seq (.cond (tZ 16) .skip (.exit 0))
  (.seq (.block 1 (.seq (.reg __inverse_search__bound_r3)
  (.seq (.regd __inverse_search__bound_r4 __inverse_search__bound_a4)
  (.regd __inverse_search__bound_r5 __inverse_search__bound_a5))))
  (.reg __inverse_search__bound_r6)))))))
  (.seq (.regd __inverse_search__bound_r7 __inverse_search__bound_a7)
  (.seq (.reg __inverse_search__bound_r8)
  (.seq (.seq (.regd __inverse_search__bound_r9 __inverse_search__bound_a9)
  (.block 2 (.loop (.seq (.reg __inverse_search__bound_r10)
  (.seq (.cond (tZ 117) .skip (.exit 2))
  (.seq (.block 3 (.seq (.reg __inverse_search__bound_r11)
  (.seq (.regd __inverse_search__bound_r12 __inverse_search__bound_a12)
  (.reg __inverse_search__bound_r13))))
  (.reg __inverse_search__bound_r14)))))))
  (.seq (.reg __inverse_search__bound_r15)
  .ret)))))), [.tmp 2]⟩
theorem __inverse_search__bound_s : slimF Try.prog 58 = some __inverse_search__bound_c := by kernel_rfl
abbrev __inverse_search__bound_f : Nat := 58
/-- (*printworks/inverse.search).before -/
def __inverse_search__before_r0 : List SO := [rZ 2 (.assign (.const (.bool false)))]
def __inverse_search__before_r1 : List SO := [mvZ 5 0, rZ 6 (.nilCheck (tZ 5)), faZ 7 89 6 6, ldZ 8 24 7, rZ 9 (.call ⟨(.builtin .len), #[(tZ 8)], #[24]⟩), rZ 10 (.move (ciZ 0))]
def __inverse_search__before_r2 : List SO := [boZ 11 .lss 3 10 9 3]
def __inverse_search__before_r3 : List SO := [mvZ 12 10, iaZ 13 24 8 10, ldZ 14 3 13, asZ 3 12, asZ 4 14]
def __inverse_search__before_r4 : List SO := [mvZ 15 4, mvZ 16 0, rZ 17 (.nilCheck (tZ 16)), faZ 18 89 17 1, ldZ 19 60 18, rZ 20 (.nilCheck (tZ 19)), faZ 21 32 20 1, ldZ 22 3 21, boZ 23 .mul 3 15 22 3, asZ 4 23]
def __inverse_search__before_r5 : List SO := [mvZ 24 4, mvZ 25 0, rZ 26 (.nilCheck (tZ 25)), faZ 27 89 26 2, ldZ 28 24 27, mvZ 29 3, iaZ 30 24 28 29, ldZ 31 3 30, boZ 32 .neq 3 24 31 3]
def __inverse_search__before_r6 : List SO := [mvZ 33 4, mvZ 34 0, rZ 35 (.nilCheck (tZ 34)), faZ 36 89 35 2, ldZ 37 24 36, mvZ 38 3, iaZ 39 24 37 38, ldZ 40 3 39, boZ 41 .lss 3 33 40 3, asZ 2 41]
def __inverse_search__before_r7 : List SO := [bcZ 42 .add 3 10 1 3, mvZ 10 42]
def __inverse_search__before_r8 : List SO := [rZ 2 (.assign (.const (.bool false)))]
def __inverse_search__before_c : SF := ⟨43, (.seq (.reg __inverse_search__before_r0)
  (.seq (.seq (.reg __inverse_search__before_r1)
  (.block 0 (.loop (.seq (.reg __inverse_search__before_r2)
  (.seq (.cond (tZ 11) .skip (.exit 0))
  (.seq (.block 1 (.seq (.reg __inverse_search__before_r3)
  (.seq (.reg __inverse_search__before_r4)
  (.seq (.reg __inverse_search__before_r5)
  (.cond (tZ 32) (.seq (.reg __inverse_search__before_r6)
  .ret) .skip)))))
  (.reg __inverse_search__before_r7)))))))
  (.seq (.reg __inverse_search__before_r8)
  .ret))), [.tmp 2]⟩
theorem __inverse_search__before_s : slimF Try.prog 59 = some __inverse_search__before_c := by kernel_rfl
abbrev __inverse_search__before_f : Nat := 59

def tbl_inverse : List (Nat × SF) := [(7, inverse_Find_c), (20, inverse_Check_c), (21, inverse_Quick_c), (45, __inverse_search__run_c), (58, __inverse_search__bound_c), (59, __inverse_search__before_c)]
theorem tbl_inverse_ok : okT Try.prog tbl_inverse := ⟨inverse_Find_s, inverse_Check_s, inverse_Quick_s, __inverse_search__run_s, __inverse_search__bound_s, __inverse_search__before_s, trivial⟩

end Go.Proofs.Ytkapjajlkpepmaa
namespace Go.Proofs.Ytkapjajlkpepmaa
open Go Go.Lite
set_option linter.unusedVariables false

/-- printworks/devicelink.Build -/
def devicelink_Build_r0 : List SO := [rZ 3 (.box 28 (tZ 0)), rZ 4 (.box 28 (tZ 1)), rZ 5 (.box 44 (tZ 2)), rZ 6 (.alloc 26), rZ 7 (.assign (ciZ 0))]
def devicelink_Build_r1 : List SO := [ldZ 11 28 3, rZ 12 (.call ⟨(.value (.func (19 : Nat))), #[(tZ 11)], #[28]⟩), asZ 8 12]
def devicelink_Build_r2 : List SO := [mvZ 13 8, bcZ 14 .neq 34 13 0 34]
def devicelink_Build_r3 : List SO := [rZ 15 (.build 26 #[]), mvZ 16 8, stZ 26 6 15, asZ 7 16]
def devicelink_Build_r4 : List SO := [ldZ 17 28 4, rZ 18 (.call ⟨(.value (.func (19 : Nat))), #[(tZ 17)], #[28]⟩), asZ 9 18]
def devicelink_Build_r5 : List SO := [mvZ 19 9, bcZ 20 .neq 34 19 0 34]
def devicelink_Build_r6 : List SO := [rZ 21 (.build 26 #[]), mvZ 22 9, stZ 26 6 21, asZ 7 22]
def devicelink_Build_r7 : List SO := [rZ 23 (.call ⟨(.value (.func (30 : Nat))), #[(tZ 3), (tZ 4), (tZ 5)], #[59, 59, 70]⟩), asZ 10 23]
def devicelink_Build_r8 : List SO := [mvZ 24 10, bcZ 25 .neq 34 24 0 34]
def devicelink_Build_r9 : List SO := [rZ 26 (.build 26 #[]), mvZ 27 10, stZ 26 6 26, asZ 7 27]
def devicelink_Build_r10 : List SO := [faZ 28 28 3 1, ldZ 29 22 28, rZ 30 (.call ⟨(.builtin .len), #[(tZ 29)], #[22]⟩), faZ 31 28 4 1, ldZ 32 22 31, rZ 33 (.call ⟨(.builtin .len), #[(tZ 32)], #[22]⟩), faZ 34 44 5 0, ldZ 35 3 34, rZ 36 (.makeFunc (.func (32 : Nat)) #[] #[(tZ 5), (tZ 3), (tZ 4)]), rZ 37 (.call ⟨(.value (.func (31 : Nat))), #[(tZ 30), (tZ 33), (tZ 35), (tZ 36)], #[3, 3, 3, 74]⟩), exZ 38 37 0, exZ 39 37 1, stZ 26 6 38, asZ 7 39]
def devicelink_Build_c : SF := ⟨40, (.seq (.reg devicelink_Build_r0)
  (.seq (.seq (.reg devicelink_Build_r1)
  (.seq (.reg devicelink_Build_r2)
  (.cond (tZ 14) (.seq (.reg devicelink_Build_r3)
  .ret) .skip)))
  (.seq (.seq (.reg devicelink_Build_r4)
  (.seq (.reg devicelink_Build_r5)
  (.cond (tZ 20) (.seq (.reg devicelink_Build_r6)
  .ret) .skip)))
  (.seq (.seq (.reg devicelink_Build_r7)
  (.seq (.reg devicelink_Build_r8)
  (.cond (tZ 25) (.seq (.reg devicelink_Build_r9)
  .ret) .skip)))
  (.seq (.reg devicelink_Build_r10)
  .ret))))), [.cell 6 26, .tmp 7]⟩
theorem devicelink_Build_s : slimF Try.prog 12 = some devicelink_Build_c := by kernel_rfl
abbrev devicelink_Build_f : Nat := 12
/-- printworks/devicelink.Far -/
def devicelink_Far_r0 : List SO := [rZ 4 (.box 28 (tZ 0)), rZ 5 (.box 28 (tZ 1)), rZ 6 (.box 26 (tZ 2)), rZ 8 (.assign (ciZ 0)), rZ 9 (.assign (ciZ 0))]
def devicelink_Far_r1 : List SO := [ldZ 14 28 4, rZ 15 (.call ⟨(.value (.func (19 : Nat))), #[(tZ 14)], #[28]⟩), asZ 10 15]
def devicelink_Far_r2 : List SO := [mvZ 16 10, bcZ 17 .neq 34 16 0 34]
def devicelink_Far_r3 : List SO := [mvZ 18 10, rZ 8 (.assign (ciZ 0)), asZ 9 18]
def devicelink_Far_r4 : List SO := [ldZ 19 28 5, rZ 20 (.call ⟨(.value (.func (19 : Nat))), #[(tZ 19)], #[28]⟩), asZ 11 20]
def devicelink_Far_r5 : List SO := [mvZ 21 11, bcZ 22 .neq 34 21 0 34]
def devicelink_Far_r6 : List SO := [mvZ 23 11, rZ 8 (.assign (ciZ 0)), asZ 9 23]
def devicelink_Far_r7 : List SO := [ldZ 24 26 6, rZ 25 (.call ⟨(.value (.func (35 : Nat))), #[(tZ 24)], #[26]⟩), asZ 12 25]
def devicelink_Far_r8 : List SO := [mvZ 26 12, bcZ 27 .neq 34 26 0 34]
def devicelink_Far_r9 : List SO := [mvZ 28 12, rZ 8 (.assign (ciZ 0)), asZ 9 28]
def devicelink_Far_r10 : List SO := [faZ 29 26 6 0, ldZ 30 3 29, faZ 31 28 4 1, ldZ 32 22 31, rZ 33 (.call ⟨(.builtin .len), #[(tZ 32)], #[22]⟩), boZ 34 .neq 3 30 33 3, mvZ 35 34, gZ 35 false (faZ 36 26 6 1), gZ 35 false (ldZ 37 3 36), gZ 35 false (faZ 38 28 5 1), gZ 35 false (ldZ 39 22 38), gZ 35 false (rZ 40 (.call ⟨(.builtin .len), #[(tZ 39)], #[22]⟩)), gZ 35 false (boZ 41 .neq 3 37 40 3), rZ 42 (.pick (tZ 35) (.const (.bool true)) (tZ 41))]
def devicelink_Far_r11 : List SO := [rZ 8 (.assign (ciZ 0)), rZ 9 (.assign (ciZ 4))]
def devicelink_Far_r12 : List SO := [mvZ 43 3, faZ 44 26 6 0, ldZ 45 3 44, rZ 46 (.call ⟨(.value (.func (22 : Nat))), #[(tZ 43), (tZ 45)], #[24, 3]⟩), asZ 13 46]
def devicelink_Far_r13 : List SO := [mvZ 47 13, bcZ 48 .neq 34 47 0 34]
def devicelink_Far_r14 : List SO := [mvZ 49 13, rZ 8 (.assign (ciZ 0)), asZ 9 49]
def devicelink_Far_r15 : List SO := [mvZ 50 3, rZ 51 (.call ⟨(.value (.func (23 : Nat))), #[(tZ 4), (tZ 50)], #[59, 24]⟩), mvZ 52 3, rZ 53 (.call ⟨(.value (.func (36 : Nat))), #[(tZ 6), (tZ 52)], #[77, 24]⟩), rZ 54 (.call ⟨(.value (.func (23 : Nat))), #[(tZ 5), (tZ 53)], #[59, 24]⟩), rZ 55 (.call ⟨(.value (.func (25 : Nat))), #[(tZ 51), (tZ 54)], #[30, 30]⟩), asZ 8 55, rZ 9 (.assign (ciZ 0))]
def devicelink_Far_c : SF := ⟨56, (.seq (.reg devicelink_Far_r0)
  (.seq (.seq (.reg devicelink_Far_r1)
  (.seq (.reg devicelink_Far_r2)
  (.cond (tZ 17) (.seq (.reg devicelink_Far_r3)
  .ret) .skip)))
  (.seq (.seq (.reg devicelink_Far_r4)
  (.seq (.reg devicelink_Far_r5)
  (.cond (tZ 22) (.seq (.reg devicelink_Far_r6)
  .ret) .skip)))
  (.seq (.seq (.reg devicelink_Far_r7)
  (.seq (.reg devicelink_Far_r8)
  (.cond (tZ 27) (.seq (.reg devicelink_Far_r9)
  .ret) .skip)))
  (.seq (.seq (.reg devicelink_Far_r10)
  (.cond (tZ 42) (.seq (.reg devicelink_Far_r11)
  .ret) .skip))
  (.seq (.seq (.reg devicelink_Far_r12)
  (.seq (.reg devicelink_Far_r13)
  (.cond (tZ 48) (.seq (.reg devicelink_Far_r14)
  .ret) .skip)))
  (.seq (.reg devicelink_Far_r15)
  .ret))))))), [.tmp 8, .tmp 9]⟩
theorem devicelink_Far_s : slimF Try.prog 13 = some devicelink_Far_c := by kernel_rfl
abbrev devicelink_Far_f : Nat := 13
/-- printworks/devicelink.Convert -/
def devicelink_Convert_r0 : List SO := [rZ 2 (.box 26 (tZ 0)), rZ 4 (.assign (.const (.slice none 0 0))), rZ 5 (.assign (ciZ 0))]
def devicelink_Convert_r1 : List SO := [ldZ 8 26 2, rZ 9 (.call ⟨(.value (.func (35 : Nat))), #[(tZ 8)], #[26]⟩), asZ 6 9]
def devicelink_Convert_r2 : List SO := [mvZ 10 6, bcZ 11 .neq 34 10 0 34]
def devicelink_Convert_r3 : List SO := [mvZ 12 6, rZ 4 (.assign (.const (.slice none 0 0))), asZ 5 12]
def devicelink_Convert_r4 : List SO := [mvZ 13 1, faZ 14 26 2 0, ldZ 15 3 14, rZ 16 (.call ⟨(.value (.func (22 : Nat))), #[(tZ 13), (tZ 15)], #[24, 3]⟩), asZ 7 16]
def devicelink_Convert_r5 : List SO := [mvZ 17 7, bcZ 18 .neq 34 17 0 34]
def devicelink_Convert_r6 : List SO := [mvZ 19 7, rZ 4 (.assign (.const (.slice none 0 0))), asZ 5 19]
def devicelink_Convert_r7 : List SO := [mvZ 20 1, rZ 21 (.call ⟨(.value (.func (36 : Nat))), #[(tZ 2), (tZ 20)], #[77, 24]⟩), asZ 4 21, rZ 5 (.assign (ciZ 0))]
def devicelink_Convert_c : SF := ⟨22, (.seq (.reg devicelink_Convert_r0)
  (.seq (.seq (.reg devicelink_Convert_r1)
  (.seq (.reg devicelink_Convert_r2)
  (.cond (tZ 11) (.seq (.reg devicelink_Convert_r3)
  .ret) .skip)))
  (.seq (.seq (.reg devicelink_Convert_r4)
  (.seq (.reg devicelink_Convert_r5)
  (.cond (tZ 18) (.seq (.reg devicelink_Convert_r6)
  .ret) .skip)))
  (.seq (.reg devicelink_Convert_r7)
  .ret)))), [.tmp 4, .tmp 5]⟩
theorem devicelink_Convert_s : slimF Try.prog 27 = some devicelink_Convert_c := by kernel_rfl
/-- printworks/devicelink.check -/
def devicelink_check_r0 : List SO := [rZ 6 (.assign (ciZ 0))]
def devicelink_check_r1 : List SO := [rZ 7 (.assign (ciZ 1))]
def devicelink_check_r2 : List SO := [mvZ 12 2, rZ 13 (.nilCheck (tZ 12)), faZ 14 44 13 0, ldZ 15 3 14]
def devicelink_check_r3 : List SO := [bcZ 17 .eql 3 15 2 3, asZ 16 17]
def devicelink_check_r4 : List SO := [bcZ 18 .eql 3 15 4 3, asZ 16 18]
def devicelink_check_r5 : List SO := [bcZ 19 .eql 3 15 6 3, asZ 16 19]
def devicelink_check_r6 : List SO := [mvZ 20 0, rZ 21 (.nilCheck (tZ 20)), faZ 22 28 21 1, ldZ 23 22 22, rZ 24 (.call ⟨(.builtin .len), #[(tZ 23)], #[22]⟩), rZ 25 (.move (ciZ 0))]
def devicelink_check_r7 : List SO := [boZ 26 .lss 3 25 24 3]
def devicelink_check_r8 : List SO := [mvZ 27 7, mvZ 28 2, rZ 29 (.nilCheck (tZ 28)), faZ 30 44 29 0, ldZ 31 3 30, boZ 32 .mul 3 27 31 3, asZ 7 32]
def devicelink_check_r9 : List SO := [bcZ 33 .add 3 25 1 3, mvZ 25 33]
def devicelink_check_r10 : List SO := [rZ 6 (.assign (ciZ 3))]
def devicelink_check_r11 : List SO := [mvZ 34 7, bcZ 35 .gtr 3 34 256 3]
def devicelink_check_r12 : List SO := [rZ 6 (.assign (ciZ 2))]
def devicelink_check_r13 : List SO := [mvZ 36 1, rZ 37 (.nilCheck (tZ 36)), faZ 38 28 37 1, ldZ 39 22 38, rZ 40 (.call ⟨(.builtin .len), #[(tZ 39)], #[22]⟩), mvZ 41 1, rZ 42 (.nilCheck (tZ 41)), faZ 43 28 42 1, ldZ 44 22 43, rZ 45 (.call ⟨(.builtin .len), #[(tZ 44)], #[22]⟩), rZ 46 (.build 30 #[]), mvZ 47 2, rZ 48 (.call ⟨(.value (.func (34 : Nat))), #[(tZ 45), (tZ 46), (tZ 47)], #[3, 30, 70]⟩), rZ 49 (.call ⟨(.value (.func (20 : Nat))), #[(tZ 40), (tZ 48)], #[3, 32]⟩), asZ 8 49]
def devicelink_check_a13 : List (List Nat) := [[], [0], [1], [2], [3], [], [5], [6], [7], [8], [], [], [9, 10, 11], [4, 12, 12], [13, 13, 0, 1, 2, 3, 4, 5, 6, 7, 8, 9, 10, 11, 12, 13]]
def devicelink_check_r14 : List SO := [mvZ 50 8, bcZ 51 .neq 34 50 0 34]
def devicelink_check_r15 : List SO := [mvZ 52 8, asZ 6 52]
def devicelink_check_r16 : List SO := [mvZ 53 2, rZ 54 (.nilCheck (tZ 53)), faZ 55 44 54 3, ldZ 56 4 55, rZ 57 (.unOp .not 4 (tZ 56))]
def devicelink_check_r17 : List SO := [mvZ 58 2, rZ 59 (.nilCheck (tZ 58)), faZ 60 44 59 4, ldZ 61 30 60, rZ 62 (.build 30 #[]), boZ 63 .neq 30 61 62 30]
def devicelink_check_r18 : List SO := [rZ 6 (.assign (ciZ 4))]
def devicelink_check_r19 : List SO := [rZ 6 (.assign (ciZ 0))]
def devicelink_check_r20 : List SO := [mvZ 65 1, rZ 66 (.nilCheck (tZ 65)), ldZ 67 28 66, mvZ 68 2, rZ 69 (.nilCheck (tZ 68)), faZ 70 44 69 4, ldZ 71 30 70, mvZ 72 2, rZ 73 (.nilCheck (tZ 72)), faZ 74 44 73 4, ldZ 75 30 74, rZ 76 (.call ⟨(.value (.func (15 : Nat))), #[(tZ 67), (tZ 71), (tZ 75)], #[28, 30, 30]⟩), mvZ 64 76, exZ 77 64 0, exZ 78 64 1, exZ 79 64 2, rZ 9 (.alloc 30), stZ 30 9 77, asZ 10 78, asZ 11 79]
def devicelink_check_a20 : List (List Nat) := [[], [0], [1], [], [3], [4], [5], [], [7], [8], [9], [2, 6, 10], [11], [12], [12], [12], [], [16, 13, 11, 0, 1, 2, 3, 4, 5, 6, 7, 8, 9, 10, 11, 12, 13, 16], [14, 17, 0, 1, 2, 3, 4, 5, 6, 7, 8, 9, 10, 11, 12, 13, 14, 16, 17], [15, 18, 0, 1, 2, 3, 4, 5, 6, 7, 8, 9, 10, 11, 12, 13, 14, 15, 16, 17, 18]]
def devicelink_check_r21 : List SO := [mvZ 80 11, asZ 6 80]
def devicelink_check_c : SF := ⟨81, (.seq (.reg devicelink_check_r0)
  (.seq (.reg devicelink_check_r1)
  (.seq (.seq (.reg devicelink_check_r2)
  (.block 0 (.seq (.seq (.reg devicelink_check_r3)
  (.cond (tZ 16) .skip (.seq (.reg devicelink_check_r4)
  (.cond (tZ 16) .skip (.reg devicelink_check_r5)))))
  (.cond (tZ 16) (.seq (.reg devicelink_check_r6)
  (.block 1 (.loop (.seq (.reg devicelink_check_r7)
  (.seq (.cond (tZ 26) .skip (.exit 1))
  (.seq (.block 2 (.reg devicelink_check_r8))
  (.reg devicelink_check_r9))))))) (.seq (.reg devicelink_check_r10)
  .ret)))))
  (.seq (.seq (.reg devicelink_check_r11)
  (.cond (tZ 35) (.seq (.reg devicelink_check_r12)
  .ret) .skip))
  (.seq (.seq (.regd devicelink_check_r13 devicelink_check_a13)
  (.seq (.reg devicelink_check_r14)
  (.cond (tZ 51) (.seq (.reg devicelink_check_r15)
  .ret) .skip)))
  (.seq (.seq (.reg devicelink_check_r16)
  (.cond (tZ 57) (.seq (.seq (.reg devicelink_check_r17)
  (.cond (tZ 63) (.seq (.reg devicelink_check_r18)
  .ret) .skip))
  (.seq (.reg devicelink_check_r19)
  .ret)) .skip))
  (.seq (.regd devicelink_check_r20 devicelink_check_a20)
  (.seq (.reg devicelink_check_r21)
  .ret)))))))), [.tmp 6]⟩
theorem devicelink_check_s : slimF Try.prog 30 = some devicelink_check_c := by kernel_rfl
abbrev devicelink_check_f : Nat := 30
/-- printworks/devicelink.Build$1 -/
def devicelink_Build_1_r0 : List SO := [rZ 5 (.assign (.const (.slice none 0 0))), rZ 6 (.assign (ciZ 0))]
def devicelink_Build_1_r1 : List SO := [mvZ 15 0, rZ 16 (.call ⟨(.builtin .len), #[(tZ 15)], #[24]⟩), rZ 17 (.move (ciZ 0))]
def devicelink_Build_1_r2 : List SO := [boZ 18 .lss 3 17 16 3]
def devicelink_Build_1_r3 : List SO := [mvZ 19 17, asZ 7 19]
def devicelink_Build_1_r4 : List SO := [mvZ 20 0, mvZ 21 7, iaZ 22 24 20 21, ldZ 23 3 22, faZ 24 44 1 0, ldZ 25 3 24, bcZ 26 .sub 3 25 1 3, rZ 27 (.binOp .quo 3 (ciZ 255) (tZ 26) 3), boZ 28 .mul 3 23 27 3, iaZ 29 24 20 21, stZ 3 29 28]
def devicelink_Build_1_a4 : List (List Nat) := [[], [], [0, 1], [2], [], [4], [5], [6], [3, 7], [0, 1, 0, 1, 2, 3, 4, 5, 6, 7, 8], [9, 8, 0, 1, 2, 3, 4, 5, 6, 7, 8]]
def devicelink_Build_1_r5 : List SO := [bcZ 30 .add 3 17 1 3, mvZ 17 30]
def devicelink_Build_1_r6 : List SO := [mvZ 31 0, rZ 32 (.call ⟨(.value (.func (23 : Nat))), #[(tZ 2), (tZ 31)], #[59, 24]⟩), rZ 8 (.alloc 30), stZ 30 8 32]
def devicelink_Build_1_r7 : List SO := [faZ 33 44 1 3, ldZ 34 4 33]
def devicelink_Build_1_r8 : List SO := [rZ 9 (.assign (ciZ 0))]
def devicelink_Build_1_r9 : List SO := [ldZ 36 30 8, faZ 37 44 1 4, ldZ 38 30 37, rZ 39 (.call ⟨(.value (.func (33 : Nat))), #[(tZ 3), (tZ 36), (tZ 38)], #[59, 30, 30]⟩), mvZ 35 39, exZ 40 35 0, exZ 41 35 1, exZ 42 35 2, stZ 30 8 40, asZ 9 42]
def devicelink_Build_1_r10 : List SO := [mvZ 43 9, bcZ 44 .neq 34 43 0 34]
def devicelink_Build_1_r11 : List SO := [mvZ 45 9, rZ 5 (.assign (.const (.slice none 0 0))), asZ 6 45]
def devicelink_Build_1_r12 : List SO := [faZ 46 28 3 1, ldZ 47 22 46, rZ 48 (.call ⟨(.builtin .len), #[(tZ 47)], #[22]⟩), ldZ 49 30 8, rZ 50 (.call ⟨(.value (.func (34 : Nat))), #[(tZ 48), (tZ 49), (tZ 1)], #[3, 30, 70]⟩), rZ 10 (.alloc 32), stZ 32 10 50]
def devicelink_Build_1_r13 : List SO := [rZ 52 (.call ⟨(.value (.func (21 : Nat))), #[(tZ 3), (tZ 10)], #[59, 60]⟩), mvZ 51 52, exZ 53 51 0, exZ 54 51 1, exZ 55 51 2, asZ 11 53, asZ 12 54, asZ 13 55]
def devicelink_Build_1_r14 : List SO := [mvZ 56 13, bcZ 57 .neq 34 56 0 34]
def devicelink_Build_1_r15 : List SO := [mvZ 58 13, rZ 5 (.assign (.const (.slice none 0 0))), asZ 6 58]
def devicelink_Build_1_r16 : List SO := [mvZ 59 11, rZ 60 (.call ⟨(.builtin .len), #[(tZ 59)], #[24]⟩), rZ 61 (.move (ciZ 0))]
def devicelink_Build_1_r17 : List SO := [boZ 62 .lss 3 61 60 3]
def devicelink_Build_1_r18 : List SO := [mvZ 63 61, asZ 14 63]
def devicelink_Build_1_r19 : List SO := [mvZ 64 11, mvZ 65 14, iaZ 66 24 64 65, ldZ 67 3 66, bcZ 68 .mul 3 67 256 3, iaZ 69 24 64 65, stZ 3 69 68]
def devicelink_Build_1_r20 : List SO := [bcZ 70 .add 3 61 1 3, mvZ 61 70]
def devicelink_Build_1_r21 : List SO := [mvZ 71 11, asZ 5 71, rZ 6 (.assign (ciZ 0))]
def devicelink_Build_1_c : SF := ⟨72, (.seq (.reg devicelink_Build_1_r0)
  (.seq (.seq (.reg devicelink_Build_1_r1)
  (.block 0 (.loop (.seq (.reg devicelink_Build_1_r2)
  (.seq (.cond (tZ 18) .skip (.exit 0))
  (.seq (.block 1 (.seq (.reg devicelink_Build_1_r3)
  (.regd devicelink_Build_1_r4 devicelink_Build_1_a4)))
  (.reg devicelink_Build_1_r5)))))))
  (.seq (.reg devicelink_Build_1_r6)
  (.seq (.seq (.reg devicelink_Build_1_r7)
  (.cond (tZ 34) (.seq (.reg devicelink_Build_1_r8)
  (.seq (.reg devicelink_Build_1_r9)
  (.seq (.reg devicelink_Build_1_r10)
  (.cond (tZ 44) (.seq (.reg devicelink_Build_1_r11)
  .ret) .skip)))) .skip))
  (.seq (.reg devicelink_Build_1_r12)
  (.seq (.reg devicelink_Build_1_r13)
  (.seq (.seq (.reg devicelink_Build_1_r14)
  (.cond (tZ 57) (.seq (.reg devicelink_Build_1_r15)
  .ret) .skip))
  (.seq (.seq (.reg devicelink_Build_1_r16)
  (.block 2 (.loop (.seq (.reg devicelink_Build_1_r17)
  (.seq (.cond (tZ 62) .skip (.exit 2))
  (.seq (.block 3 (.seq (.reg devicelink_Build_1_r18)
  (.reg devicelink_Build_1_r19)))
  (.reg devicelink_Build_1_r20)))))))
  (.seq (.reg devicelink_Build_1_r21)
  .ret))))))))), [.tmp 5, .tmp 6]⟩
theorem devicelink_Build_1_s : slimF Try.prog 32 = some devicelink_Build_1_c := by kernel_rfl
abbrev devicelink_Build_1_f : Nat := 32
/-- printworks/devicelink.Check -/
def devicelink_Check_r0 : List SO := [rZ 1 (.box 26 (tZ 0)), rZ 2 (.assign (ciZ 0))]
def devicelink_Check_r1 : List SO := [ldZ 6 26 1, rZ 7 (.call ⟨(.value (.func (44 : Nat))), #[(tZ 6)], #[26]⟩), asZ 3 7]
def devicelink_Check_r2 : List SO := [mvZ 8 3, bcZ 9 .neq 34 8 0 34]
def devicelink_Check_r3 : List SO := [mvZ 10 3, asZ 2 10]
def devicelink_Check_r4 : List SO := [faZ 11 26 1 3, ldZ 12 24 11, rZ 13 (.call ⟨(.builtin .len), #[(tZ 12)], #[24]⟩), rZ 14 (.move (ciZ 0))]
def devicelink_Check_r5 : List SO := [boZ 15 .lss 3 14 13 3]
def devicelink_Check_r6 : List SO := [iaZ 16 24 12 14, ldZ 17 3 16, asZ 5 17]
def devicelink_Check_r7 : List SO := [mvZ 18 5, bcZ 19 .lss 3 18 0 3, mvZ 20 19, gZ 20 false (mvZ 21 5), gZ 20 false (bcZ 22 .gtr 3 21 65280 3), rZ 23 (.pick (tZ 20) (.const (.bool true)) (tZ 22))]
def devicelink_Check_r8 : List SO := [rZ 2 (.assign (ciZ 3))]
def devicelink_Check_r9 : List SO := [bcZ 24 .add 3 14 1 3, mvZ 14 24]
def devicelink_Check_r10 : List SO := [rZ 2 (.assign (ciZ 0))]
def devicelink_Check_c : SF := ⟨25, (.seq (.reg devicelink_Check_r0)
  (.seq (.seq (.reg devicelink_Check_r1)
  (.seq (.reg devicelink_Check_r2)
  (.cond (tZ 9) (.seq (.reg devicelink_Check_r3)
  .ret) .skip)))
  (.seq (.seq (.reg devicelink_Check_r4)
  (.block 0 (.loop (.seq (.reg devicelink_Check_r5)
  (.seq (.cond (tZ 15) .skip (.exit 0))
  (.seq (.block 1 (.seq (.reg devicelink_Check_r6)
  (.seq (.reg devicelink_Check_r7)
  (.cond (tZ 23) (.seq (.reg devicelink_Check_r8)
  .ret) .skip))))
  (.reg devicelink_Check_r9)))))))
  (.seq (.reg devicelink_Check_r10)
  .ret)))), [.tmp 2]⟩
theorem devicelink_Check_s : slimF Try.prog 35 = some devicelink_Check_c := by kernel_rfl
abbrev devicelink_Check_f : Nat := 35
/-- printworks/devicelink.Quick -/
def devicelink_Quick_r0 : List SO := [rZ 4 (.assign (.const (.slice none 0 0)))]
def devicelink_Quick_r1 : List SO := [mvZ 11 1, rZ 12 (.call ⟨(.builtin .len), #[(tZ 11)], #[24]⟩), rZ 13 (.makeSlice 24 (tZ 12) (tZ 12)), asZ 5 13]
def devicelink_Quick_r2 : List SO := [mvZ 14 1, rZ 15 (.call ⟨(.builtin .len), #[(tZ 14)], #[24]⟩), rZ 16 (.move (ciZ 0))]
def devicelink_Quick_r3 : List SO := [boZ 17 .lss 3 16 15 3]
def devicelink_Quick_r4 : List SO := [mvZ 18 16, iaZ 19 24 14 16, ldZ 20 3 19, asZ 6 18, asZ 7 20]
def devicelink_Quick_r5 : List SO := [mvZ 21 5, mvZ 22 6, mvZ 23 7, rZ 24 (.binOp .mul 3 (ciZ 256) (tZ 23) 3), iaZ 25 24 21 22, stZ 3 25 24]
def devicelink_Quick_r6 : List SO := [bcZ 26 .add 3 16 1 3, mvZ 16 26]
def devicelink_Quick_r7 : List SO := [mvZ 27 0, mvZ 28 5, rZ 29 (.call ⟨(.value (.func (55 : Nat))), #[(tZ 27), (tZ 28)], #[77, 24]⟩), asZ 8 29]
def devicelink_Quick_r8 : List SO := [mvZ 30 8, rZ 31 (.call ⟨(.builtin .len), #[(tZ 30)], #[24]⟩), rZ 32 (.move (ciZ 0))]
def devicelink_Quick_r9 : List SO := [boZ 33 .lss 3 32 31 3]
def devicelink_Quick_r10 : List SO := [mvZ 34 32, iaZ 35 24 30 32, ldZ 36 3 35, asZ 9 34, asZ 10 36]
def devicelink_Quick_r11 : List SO := [mvZ 37 8, mvZ 38 9, mvZ 39 10, mvZ 40 0, rZ 41 (.nilCheck (tZ 40)), faZ 42 26 41 2, ldZ 43 3 42, bcZ 44 .sub 3 43 1 3, rZ 45 (.binOp .quo 3 (ciZ 65280) (tZ 44) 3), rZ 46 (.binOp .mul 3 (ciZ 256) (tZ 45) 3), rZ 47 (.call ⟨(.value (.func (56 : Nat))), #[(tZ 39), (tZ 46)], #[3, 3]⟩), iaZ 48 24 37 38, stZ 3 48 47]
def devicelink_Quick_r12 : List SO := [bcZ 49 .add 3 32 1 3, mvZ 32 49]
def devicelink_Quick_r13 : List SO := [mvZ 50 8, asZ 4 50]
def devicelink_Quick_c : SF := ⟨51, (.seq (.reg devicelink_Quick_r0)
  (.seq (.reg devicelink_Quick_r1)
  (.seq (.seq (.reg devicelink_Quick_r2)
  (.block 0 (.loop (.seq (.reg devicelink_Quick_r3)
  (.seq (.cond (tZ 17) .skip (.exit 0))
  (.seq (.block 1 (.seq (.reg devicelink_Quick_r4)
  (.reg devicelink_Quick_r5)))
  (.reg devicelink_Quick_r6)))))))
  (.seq (.reg devicelink_Quick_r7)
  (.seq (.seq (.reg devicelink_Quick_r8)
  (.block 2 (.loop (.seq (.reg devicelink_Quick_r9)
  (.seq (.cond (tZ 33) .skip (.exit 2))
  (.seq (.block 3 (.seq (.reg devicelink_Quick_r10)
  (.reg devicelink_Quick_r11)))
  (.reg devicelink_Quick_r12)))))))
  (.seq (.reg devicelink_Quick_r13)
  .ret)))))), [.tmp 4]⟩
theorem devicelink_Quick_s : slimF Try.prog 36 = some devicelink_Quick_c := by kernel_rfl
abbrev devicelink_Quick_f : Nat := 36
/-- printworks/devicelink.ask -/
def devicelink_ask_r0 : List SO := [rZ 4 (.box 30 (tZ 1)), rZ 6 (.alloc 32)]
def devicelink_ask_r1 : List SO := [ldZ 9 30 4, mvZ 10 2, rZ 11 (.nilCheck (tZ 10)), faZ 12 44 11 1, ldZ 13 3 12, mvZ 14 2, rZ 15 (.nilCheck (tZ 14)), faZ 16 44 15 2, ldZ 17 3 16, mvZ 18 0, rZ 19 (.makeSlice 24 (tZ 18) (tZ 18)), mvZ 20 0, rZ 21 (.makeSlice 24 (tZ 20) (tZ 20)), rZ 22 (.build 32 #[(0, (tZ 9)), (1, (tZ 13)), (2, (tZ 17)), (3, (tZ 19)), (4, (tZ 21))]), rZ 7 (.alloc 32), stZ 32 7 22]
def devicelink_ask_a1 : List (List Nat) := [[], [], [1], [2], [3], [], [5], [6], [7], [], [9, 9], [], [11, 11], [0, 4, 8, 10, 12], [], [14, 13, 0, 1, 2, 3, 4, 5, 6, 7, 8, 9, 10, 11, 12, 13, 14]]
def devicelink_ask_r2 : List SO := [mvZ 23 0, rZ 24 (.move (ciZ 0))]
def devicelink_ask_r3 : List SO := [boZ 25 .lss 3 24 23 3]
def devicelink_ask_r4 : List SO := [mvZ 26 24, asZ 8 26]
def devicelink_ask_r5 : List SO := [faZ 27 32 7 4, ldZ 28 24 27, mvZ 29 8, iaZ 30 24 28 29, ⟨none, .store 3 (tZ 30) (ciZ 255), none⟩]
def devicelink_ask_r6 : List SO := [bcZ 31 .add 3 24 1 3, mvZ 24 31]
def devicelink_ask_r7 : List SO := [ldZ 32 32 7, stZ 32 6 32]
def devicelink_ask_c : SF := ⟨33, (.seq (.reg devicelink_ask_r0)
  (.seq (.regd devicelink_ask_r1 devicelink_ask_a1)
  (.seq (.seq (.reg devicelink_ask_r2)
  (.block 0 (.loop (.seq (.reg devicelink_ask_r3)
  (.seq (.cond (tZ 25) .skip (.exit 0))
  (.seq (.block 1 (.seq (.reg devicelink_ask_r4)
  (.reg devicelink_ask_r5)))
  (.reg devicelink_ask_r6)))))))
  (.seq (.reg devicelink_ask_r7)
  .ret)))), [.cell 6 32]⟩
theorem devicelink_ask_s : slimF Try.prog 34 = some devicelink_ask_c := by kernel_rfl
abbrev devicelink_ask_f : Nat := 34

def tbl_devicelink : List (Nat × SF) := [(12, devicelink_Build_c), (13, devicelink_Far_c), (27, devicelink_Convert_c), (30, devicelink_check_c), (32, devicelink_Build_1_c), (35, devicelink_Check_c), (36, devicelink_Quick_c), (34, devicelink_ask_c)]
theorem tbl_devicelink_ok : okT Try.prog tbl_devicelink := ⟨devicelink_Build_s, devicelink_Far_s, devicelink_Convert_s, devicelink_check_s, devicelink_Build_1_s, devicelink_Check_s, devicelink_Quick_s, devicelink_ask_s, trivial⟩

end Go.Proofs.Ytkapjajlkpepmaa
namespace Go.Proofs.Ytkapjajlkpepmaa
open Go Go.Lite
set_option linter.unusedVariables false

/-- printworks/printworksref2.Mod -/
def R2_Mod_r0 : List SO := [rZ 4 (.assign (ciZ 0))]
def R2_Mod_r1 : List SO := [mvZ 5 0, mvZ 6 1, mvZ 7 0, mvZ 8 1, rZ 9 (.call ⟨(.value (.func (26 : Nat))), #[(tZ 7), (tZ 8)], #[3, 3]⟩), boZ 10 .mul 3 6 9 3, boZ 11 .sub 3 5 10 3, asZ 4 11]
def R2_Mod_c : SF := ⟨12, (.seq (.reg R2_Mod_r0)
  (.seq (.reg R2_Mod_r1)
  .ret)), [.tmp 4]⟩
theorem R2_Mod_s : slimF Try.prog 10 = some R2_Mod_c := by kernel_rfl
abbrev R2_Mod_f : Nat := 10
/-- printworks/printworksref2.SameInts -/
def R2_SameInts_r0 : List SO := [rZ 4 (.assign (.const (.bool false)))]
def R2_SameInts_r1 : List SO := [mvZ 6 0, rZ 7 (.call ⟨(.builtin .len), #[(tZ 6)], #[24]⟩), mvZ 8 1, rZ 9 (.call ⟨(.builtin .len), #[(tZ 8)], #[24]⟩), boZ 10 .neq 3 7 9 3]
def R2_SameInts_r2 : List SO := [rZ 4 (.assign (.const (.bool false)))]
def R2_SameInts_r3 : List SO := [mvZ 11 0, rZ 12 (.call ⟨(.builtin .len), #[(tZ 11)], #[24]⟩), rZ 13 (.move (ciZ 0))]
def R2_SameInts_r4 : List SO := [boZ 14 .lss 3 13 12 3]
def R2_SameInts_r5 : List SO := [mvZ 15 13, asZ 5 15]
def R2_SameInts_r6 : List SO := [mvZ 16 0, mvZ 17 5, iaZ 18 24 16 17, ldZ 19 3 18, mvZ 20 1, mvZ 21 5, iaZ 22 24 20 21, ldZ 23 3 22, boZ 24 .neq 3 19 23 3]
def R2_SameInts_a6 : List (List Nat) := [[], [], [0, 1], [2], [], [], [4, 5], [6], [3, 7]]
def R2_SameInts_r7 : List SO := [rZ 4 (.assign (.const (.bool false)))]
def R2_SameInts_r8 : List SO := [bcZ 25 .add 3 13 1 3, mvZ 13 25]
def R2_SameInts_r9 : List SO := [rZ 4 (.assign (.const (.bool true)))]
def R2_SameInts_c : SF := ⟨26, (.seq (.reg R2_SameInts_r0)
  (.seq (.seq (.reg R2_SameInts_r1)
  (.cond (tZ 10) (.seq (.reg R2_SameInts_r2)
  .ret) .skip))
  (.seq (.seq (.reg R2_SameInts_r3)
  (.block 0 (.loop (.seq (.reg R2_SameInts_r4)
  (.seq (.cond (tZ 14) .skip (.exit 0))
  (.seq (.block 1 (.seq (.reg R2_SameInts_r5)
  (.seq (.regd R2_SameInts_r6 R2_SameInts_a6)
  (.cond (tZ 24) (.seq (.reg R2_SameInts_r7)
  .ret) .skip))))
  (.reg R2_SameInts_r8)))))))
  (.seq (.reg R2_SameInts_r9)
  .ret)))), [.tmp 4]⟩
theorem R2_SameInts_s : slimF Try.prog 18 = some R2_SameInts_c := by kernel_rfl
/-- printworks/printworksref2.Floor -/
def R2_Floor_r0 : List SO := [rZ 4 (.assign (ciZ 0))]
def R2_Floor_r1 : List SO := [mvZ 6 0, mvZ 7 1, boZ 8 .quo 3 6 7 3, asZ 5 8]
def R2_Floor_r2 : List SO := [mvZ 9 5, mvZ 10 1, boZ 11 .mul 3 9 10 3, mvZ 12 0, boZ 13 .gtr 3 11 12 3]
def R2_Floor_r3 : List SO := [mvZ 14 5, bcZ 15 .sub 3 14 1 3, asZ 5 15]
def R2_Floor_r4 : List SO := [mvZ 16 5, asZ 4 16]
def R2_Floor_c : SF := ⟨17, (.seq (.reg R2_Floor_r0)
  (.seq (.reg R2_Floor_r1)
  (.seq (.seq (.reg R2_Floor_r2)
  (.cond (tZ 13) (.reg R2_Floor_r3) .skip))
  (.seq (.reg R2_Floor_r4)
  .ret)))), [.tmp 4]⟩
theorem R2_Floor_s : slimF Try.prog 26 = some R2_Floor_c := by kernel_rfl
abbrev R2_Floor_f : Nat := 26
/-- printworks/printworksref2.SameGrids -/
def R2_SameGrids_r0 : List SO := [rZ 2 (.box 26 (tZ 0)), rZ 3 (.box 26 (tZ 1)), rZ 4 (.assign (.const (.bool false)))]
def R2_SameGrids_r1 : List SO := [faZ 5 26 2 0, ldZ 6 3 5, faZ 7 26 3 0, ldZ 8 3 7, boZ 9 .eql 3 6 8 3, mvZ 10 9, gZ 10 true (faZ 11 26 2 1), gZ 10 true (ldZ 12 3 11), gZ 10 true (faZ 13 26 3 1), gZ 10 true (ldZ 14 3 13), gZ 10 true (boZ 15 .eql 3 12 14 3), rZ 16 (.pick (tZ 10) (tZ 15) (.const (.bool false))), mvZ 17 16, gZ 17 true (faZ 18 26 2 2), gZ 17 true (ldZ 19 3 18), gZ 17 true (faZ 20 26 3 2), gZ 17 true (ldZ 21 3 20), gZ 17 true (boZ 22 .eql 3 19 21 3), rZ 23 (.pick (tZ 17) (tZ 22) (.const (.bool false))), mvZ 24 23, gZ 24 true (faZ 25 26 2 3), gZ 24 true (ldZ 26 24 25), gZ 24 true (faZ 27 26 3 3), gZ 24 true (ldZ 28 24 27), gZ 24 true (rZ 29 (.call ⟨(.value (.func (18 : Nat))), #[(tZ 26), (tZ 28)], #[24, 24]⟩)), rZ 30 (.pick (tZ 24) (tZ 29) (.const (.bool false))), asZ 4 30]
def R2_SameGrids_c : SF := ⟨31, (.seq (.reg R2_SameGrids_r0)
  (.seq (.reg R2_SameGrids_r1)
  .ret)), [.tmp 4]⟩
theorem R2_SameGrids_s : slimF Try.prog 29 = some R2_SameGrids_c := by kernel_rfl
def tbl_R2 : List (Nat × SF) := [(10, R2_Mod_c), (18, R2_SameInts_c), (26, R2_Floor_c), (29, R2_SameGrids_c)]
theorem tbl_R2_ok : okT Try.prog tbl_R2 := ⟨R2_Mod_s, R2_SameInts_s, R2_Floor_s, R2_SameGrids_s, trivial⟩

end Go.Proofs.Ytkapjajlkpepmaa
namespace Go.Proofs.Ytkapjajlkpepmaa
open Go Go.Lite
set_option linter.unusedVariables false

/-- printworks/printworkskeep2.inverseWorks -/
def K2_inverseWorks_r0 : List SO := [rZ 0 (.assign (.const (.bool false)))]
def K2_inverseWorks_r1 : List SO := [rZ 5 (.call ⟨(.value (.func (17 : Nat))), #[], #[]⟩), rZ 6 (.build 30 #[(0, (ciZ 6000)), (1, (ciZ 50)), (2, (.const (.int .i64 (-50))))]), rZ 7 (.buildSlice 24 1 #[(0, (ciZ 0))]), rZ 8 (.buildSlice 24 1 #[(0, (ciZ 255))]), rZ 9 (.build 32 #[(0, (tZ 6)), (1, (ciZ 5)), (2, (ciZ 255)), (3, (tZ 7)), (4, (tZ 8))]), rZ 10 (.call ⟨(.value (.func (7 : Nat))), #[(tZ 5), (tZ 9)], #[28, 32]⟩), mvZ 4 10, exZ 11 4 0, exZ 12 4 1, exZ 13 4 2, asZ 1 11, asZ 2 12, asZ 3 13]
def K2_inverseWorks_r2 : List SO := [mvZ 14 3, bcZ 15 .eql 34 14 0 34, mvZ 16 15, gZ 16 true (mvZ 17 2), gZ 16 true (bcZ 18 .eql 3 17 6086 3), rZ 19 (.pick (tZ 16) (tZ 18) (.const (.bool false))), mvZ 20 19, gZ 20 true (mvZ 21 1), gZ 20 true (rZ 22 (.buildSlice 24 1 #[(0, (ciZ 125))])), gZ 20 true (rZ 23 (.call ⟨(.value (.func (18 : Nat))), #[(tZ 21), (tZ 22)], #[24, 24]⟩)), rZ 24 (.pick (tZ 20) (tZ 23) (.const (.bool false))), asZ 0 24]
def K2_inverseWorks_c : SF := ⟨25, (.seq (.reg K2_inverseWorks_r0)
  (.seq (.reg K2_inverseWorks_r1)
  (.seq (.reg K2_inverseWorks_r2)
  .ret))), [.tmp 0]⟩
theorem K2_inverseWorks_s : slimF Try.prog 6 = some K2_inverseWorks_c := by kernel_rfl
/-- printworks/printworkskeep2.devicelinkWorks -/
def K2_devicelinkWorks_r0 : List SO := [rZ 0 (.assign (.const (.bool false)))]
def K2_devicelinkWorks_r1 : List SO := [rZ 6 (.call ⟨(.value (.func (28 : Nat))), #[(ciZ 0), (ciZ 65280)], #[3, 3]⟩), rZ 7 (.buildSlice 24 1 #[(0, (ciZ 100))]), rZ 8 (.call ⟨(.value (.func (27 : Nat))), #[(tZ 6), (tZ 7)], #[26, 24]⟩), mvZ 5 8, exZ 9 5 0, exZ 10 5 1, asZ 1 9, asZ 2 10]
def K2_devicelinkWorks_r2 : List SO := [rZ 12 (.call ⟨(.value (.func (17 : Nat))), #[], #[]⟩), rZ 13 (.call ⟨(.value (.func (17 : Nat))), #[], #[]⟩), rZ 14 (.build 44 #[(0, (ciZ 2)), (1, (ciZ 255)), (2, (ciZ 255))]), rZ 15 (.call ⟨(.value (.func (12 : Nat))), #[(tZ 12), (tZ 13), (tZ 14)], #[28, 28, 44]⟩), mvZ 11 15, exZ 16 11 0, exZ 17 11 1, rZ 3 (.alloc 26), stZ 26 3 16, asZ 4 17]
def K2_devicelinkWorks_r3 : List SO := [mvZ 18 2, bcZ 19 .eql 34 18 0 34, mvZ 20 19, gZ 20 true (mvZ 21 1), gZ 20 true (rZ 22 (.buildSlice 24 1 #[(0, (ciZ 100))])), gZ 20 true (rZ 23 (.call ⟨(.value (.func (18 : Nat))), #[(tZ 21), (tZ 22)], #[24, 24]⟩)), rZ 24 (.pick (tZ 20) (tZ 23) (.const (.bool false))), mvZ 25 24, gZ 25 true (mvZ 26 4), gZ 25 true (bcZ 27 .eql 34 26 0 34), rZ 28 (.pick (tZ 25) (tZ 27) (.const (.bool false))), mvZ 29 28, gZ 29 true (ldZ 30 26 3), gZ 29 true (rZ 31 (.call ⟨(.value (.func (28 : Nat))), #[(ciZ 0), (ciZ 65280)], #[3, 3]⟩)), gZ 29 true (rZ 32 (.call ⟨(.value (.func (29 : Nat))), #[(tZ 30), (tZ 31)], #[26, 26]⟩)), rZ 33 (.pick (tZ 29) (tZ 32) (.const (.bool false))), asZ 0 33]
def K2_devicelinkWorks_a3 : List (List Nat) := [[], [0], [1], [2], [2], [3, 4, 2, 2], [2, 5], [6, 5], [7], [8, 7], [7, 9], [10, 7], [11], [11, 11], [12, 13, 13, 11], [11, 14], [15, 14, 0, 1, 2, 3, 4, 5, 6, 7, 8, 9, 10, 11, 12, 13, 14, 15]]
def K2_devicelinkWorks_c : SF := ⟨34, (.seq (.reg K2_devicelinkWorks_r0)
  (.seq (.reg K2_devicelinkWorks_r1)
  (.seq (.reg K2_devicelinkWorks_r2)
  (.seq (.regd K2_devicelinkWorks_r3 K2_devicelinkWorks_a3)
  .ret)))), [.tmp 0]⟩
theorem K2_devicelinkWorks_s : slimF Try.prog 11 = some K2_devicelinkWorks_c := by kernel_rfl
abbrev K2_devicelinkWorks_f : Nat := 11
/-- printworks/printworkskeep2.gamutWorks -/
def K2_gamutWorks_r0 : List SO := [rZ 0 (.assign (.const (.bool false)))]
def K2_gamutWorks_r1 : List SO := [rZ 9 (.call ⟨(.value (.func (37 : Nat))), #[], #[]⟩), rZ 10 (.build 30 #[(0, (ciZ 1500)), (1, (ciZ 500)), (2, (ciZ 500))]), rZ 11 (.call ⟨(.value (.func (16 : Nat))), #[(tZ 9), (tZ 10)], #[28, 30]⟩), mvZ 8 11, exZ 12 8 0, exZ 13 8 1, asZ 1 12, asZ 2 13]
def K2_gamutWorks_r2 : List SO := [rZ 15 (.call ⟨(.value (.func (37 : Nat))), #[], #[]⟩), rZ 16 (.build 30 #[(0, (ciZ 2001)), (1, (ciZ 500)), (2, (ciZ 500))]), rZ 17 (.call ⟨(.value (.func (16 : Nat))), #[(tZ 15), (tZ 16)], #[28, 30]⟩), mvZ 14 17, exZ 18 14 0, exZ 19 14 1, asZ 3 18, asZ 4 19]
def K2_gamutWorks_r3 : List SO := [rZ 21 (.call ⟨(.value (.func (37 : Nat))), #[], #[]⟩), rZ 22 (.build 30 #[(0, (ciZ 3000)), (1, (ciZ 500)), (2, (ciZ 500))]), rZ 23 (.build 30 #[(0, (ciZ 1500)), (1, (ciZ 500)), (2, (ciZ 500))]), rZ 24 (.call ⟨(.value (.func (15 : Nat))), #[(tZ 21), (tZ 22), (tZ 23)], #[28, 30, 30]⟩), mvZ 20 24, exZ 25 20 0, exZ 26 20 1, exZ 27 20 2, rZ 5 (.alloc 30), stZ 30 5 25, asZ 6 26, asZ 7 27]
def K2_gamutWorks_r4 : List SO := [mvZ 28 2, bcZ 29 .eql 34 28 0 34, mvZ 30 29, gZ 30 true (mvZ 31 1), rZ 32 (.pick (tZ 30) (tZ 31) (.const (.bool false))), mvZ 33 32, gZ 33 true (mvZ 34 4), gZ 33 true (bcZ 35 .eql 34 34 0 34), rZ 36 (.pick (tZ 33) (tZ 35) (.const (.bool false))), mvZ 37 36, gZ 37 true (mvZ 38 3), gZ 37 true (rZ 39 (.unOp .not 4 (tZ 38))), rZ 40 (.pick (tZ 37) (tZ 39) (.const (.bool false))), mvZ 41 40, gZ 41 true (mvZ 42 7), gZ 41 true (bcZ 43 .eql 34 42 0 34), rZ 44 (.pick (tZ 41) (tZ 43) (.const (.bool false))), mvZ 45 44, gZ 45 true (mvZ 46 6), gZ 45 true (bcZ 47 .eql 3 46 85 3), rZ 48 (.pick (tZ 45) (tZ 47) (.const (.bool false))), mvZ 49 48, gZ 49 true (ldZ 50 30 5), gZ 49 true (rZ 51 (.build 30 #[(0, (ciZ 1998)), (1, (ciZ 500)), (2, (ciZ 500))])), gZ 49 true (boZ 52 .eql 30 50 51 30), rZ 53 (.pick (tZ 49) (tZ 52) (.const (.bool false))), asZ 0 53]
def K2_gamutWorks_c : SF := ⟨54, (.seq (.reg K2_gamutWorks_r0)
  (.seq (.reg K2_gamutWorks_r1)
  (.seq (.reg K2_gamutWorks_r2)
  (.seq (.reg K2_gamutWorks_r3)
  (.seq (.reg K2_gamutWorks_r4)
  .ret))))), [.tmp 0]⟩
theorem K2_gamutWorks_s : slimF Try.prog 14 = some K2_gamutWorks_c := by kernel_rfl
/-- printworks/printworkskeep2.one -/
def K2_one_r0 : List SO := [rZ 0 (.alloc 28)]
def K2_one_r1 : List SO := [rZ 1 (.buildSlice 22 1 #[(0, (.const (.string ⟨([98, 108, 97, 99, 107] : List UInt8).toArray⟩)))]), rZ 2 (.call ⟨(.value (.func (40 : Nat))), #[], #[]⟩), rZ 3 (.buildSlice 23 1 #[(0, (tZ 2))]), rZ 4 (.buildSlice 24 6 #[(0, (ciZ 10000)), (1, (ciZ 0)), (2, (ciZ 0)), (3, (ciZ 2000)), (4, (ciZ 100)), (5, (.const (.int .i64 (-100))))]), rZ 5 (.build 26 #[(0, (ciZ 1)), (1, (ciZ 3)), (2, (ciZ 2)), (3, (tZ 4))]), rZ 6 (.build 28 #[(0, (.const (.string ⟨([112, 49] : List UInt8).toArray⟩))), (1, (tZ 1)), (2, (tZ 3)), (3, (tZ 5))]), stZ 28 0 6]
def K2_one_c : SF := ⟨7, (.seq (.reg K2_one_r0)
  (.seq (.reg K2_one_r1)
  .ret)), [.cell 0 28]⟩
theorem K2_one_s : slimF Try.prog 17 = some K2_one_c := by kernel_rfl
/-- printworks/printworkskeep2.straight -/
def K2_straight_r0 : List SO := [rZ 4 (.alloc 26)]
def K2_straight_r1 : List SO := [mvZ 5 0, mvZ 6 1, rZ 7 (.buildSlice 24 2 #[(0, (tZ 5)), (1, (tZ 6))]), rZ 8 (.build 26 #[(0, (ciZ 1)), (1, (ciZ 1)), (2, (ciZ 2)), (3, (tZ 7))]), stZ 26 4 8]
def K2_straight_c : SF := ⟨9, (.seq (.reg K2_straight_r0)
  (.seq (.reg K2_straight_r1)
  .ret)), [.cell 4 26]⟩
theorem K2_straight_s : slimF Try.prog 28 = some K2_straight_c := by kernel_rfl
/-- printworks/printworkskeep2.cube -/
def K2_cube_r0 : List SO := [rZ 0 (.alloc 28)]
def K2_cube_r1 : List SO := [rZ 3 (.buildSlice 22 3 #[(0, (.const (.string ⟨([97] : List UInt8).toArray⟩))), (1, (.const (.string ⟨([98] : List UInt8).toArray⟩))), (2, (.const (.string ⟨([99] : List UInt8).toArray⟩)))]), rZ 4 (.call ⟨(.value (.func (40 : Nat))), #[], #[]⟩), rZ 5 (.call ⟨(.value (.func (40 : Nat))), #[], #[]⟩), rZ 6 (.call ⟨(.value (.func (40 : Nat))), #[], #[]⟩), rZ 7 (.buildSlice 23 3 #[(0, (tZ 4)), (1, (tZ 5)), (2, (tZ 6))]), rZ 8 (.build 26 #[(0, (ciZ 3)), (1, (ciZ 3)), (2, (ciZ 2))]), rZ 9 (.build 28 #[(0, (.const (.string ⟨([99, 117, 98, 101] : List UInt8).toArray⟩))), (1, (tZ 3)), (2, (tZ 7)), (3, (tZ 8))]), rZ 1 (.alloc 28), stZ 28 1 9]
def K2_cube_r2 : List SO := [rZ 10 (.move (ciZ 0))]
def K2_cube_r3 : List SO := [bcZ 11 .lss 3 10 8 3]
def K2_cube_r4 : List SO := [mvZ 12 10, asZ 2 12]
def K2_cube_r5 : List SO := [faZ 13 28 1 3, faZ 14 26 13 3, ldZ 15 24 14, mvZ 16 2, bcZ 17 .quo 3 16 4 3, rZ 18 (.binOp .mul 3 (ciZ 1000) (tZ 17) 3), rZ 19 (.binOp .add 3 (ciZ 1000) (tZ 18) 3), mvZ 20 2, bcZ 21 .quo 3 20 2 3, bcZ 22 .rem 3 21 2 3, rZ 23 (.binOp .mul 3 (ciZ 1000) (tZ 22) 3), mvZ 24 2, bcZ 25 .rem 3 24 2 3, rZ 26 (.binOp .mul 3 (ciZ 1000) (tZ 25) 3), rZ 27 (.buildSlice 24 3 #[(0, (tZ 19)), (1, (tZ 23)), (2, (tZ 26))]), rZ 28 (.call ⟨(.builtin .append), #[(tZ 15), (tZ 27)], #[24, 24]⟩), faZ 29 28 1 3, faZ 30 26 29 3, stZ 24 30 28]
def K2_cube_r6 : List SO := [bcZ 31 .add 3 10 1 3, mvZ 10 31]
def K2_cube_r7 : List SO := [ldZ 32 28 1, stZ 28 0 32]
def K2_cube_c : SF := ⟨33, (.seq (.reg K2_cube_r0)
  (.seq (.reg K2_cube_r1)
  (.seq (.seq (.reg K2_cube_r2)
  (.block 0 (.loop (.seq (.reg K2_cube_r3)
  (.seq (.cond (tZ 11) .skip (.exit 0))
  (.seq (.block 1 (.seq (.reg K2_cube_r4)
  (.reg K2_cube_r5)))
  (.reg K2_cube_r6)))))))
  (.seq (.reg K2_cube_r7)
  .ret)))), [.cell 0 28]⟩
theorem K2_cube_s : slimF Try.prog 37 = some K2_cube_c := by kernel_rfl
/-- printworks/printworkskeep2.line -/
def K2_line_r0 : List SO := [rZ 0 (.alloc 82)]
def K2_line_r1 : List SO := [rZ 1 (.build 105 #[]), rZ 2 (.build 105 #[(0, (ciZ 65280)), (1, (ciZ 65280))]), rZ 3 (.buildSlice 80 2 #[(0, (tZ 1)), (1, (tZ 2))]), rZ 4 (.build 82 #[(0, (tZ 3))]), stZ 82 0 4]
def K2_line_c : SF := ⟨5, (.seq (.reg K2_line_r0)
  (.seq (.reg K2_line_r1)
  .ret)), [.cell 0 82]⟩
theorem K2_line_s : slimF Try.prog 40 = some K2_line_c := by kernel_rfl
def tbl_K2 : List (Nat × SF) := [(6, K2_inverseWorks_c), (11, K2_devicelinkWorks_c), (14, K2_gamutWorks_c), (17, K2_one_c), (28, K2_straight_c), (37, K2_cube_c), (40, K2_line_c)]
theorem tbl_K2_ok : okT Try.prog tbl_K2 := ⟨K2_inverseWorks_s, K2_devicelinkWorks_s, K2_gamutWorks_s, K2_one_s, K2_straight_s, K2_cube_s, K2_line_s, trivial⟩

end Go.Proofs.Ytkapjajlkpepmaa
namespace Go.Proofs.Ytkapjajlkpepmaa
open Go Go.Lite
set_option linter.unusedVariables false

/-- printworks/printworkskeep2.DevicelinkSelf -/
def K2_DevicelinkSelf_r0 : List SO := [rZ 3 (.box 28 (tZ 0)), rZ 6 (.assign (.const (.bool false)))]
def K2_DevicelinkSelf_r1 : List SO := [rZ 14 (.call ⟨(.value (.func (11 : Nat))), #[], #[]⟩), rZ 15 (.unOp .not 4 (tZ 14))]
def K2_DevicelinkSelf_r2 : List SO := [rZ 6 (.assign (.const (.bool false)))]
def K2_DevicelinkSelf_r3 : List SO := [rZ 16 (.buildSlice 24 3 #[(0, (ciZ 2)), (1, (ciZ 4)), (2, (ciZ 6))]), mvZ 17 1, rZ 18 (.call ⟨(.value (.func (10 : Nat))), #[(tZ 17), (ciZ 3)], #[3, 3]⟩), iaZ 19 24 16 18, ldZ 20 3 19, rZ 21 (.build 44 #[(0, (tZ 20)), (2, (ciZ 2040))]), rZ 7 (.alloc 44), stZ 44 7 21]
def K2_DevicelinkSelf_r4 : List SO := [faZ 22 44 7 0, ldZ 23 3 22, bcZ 24 .sub 3 23 1 3, rZ 25 (.binOp .quo 3 (ciZ 255) (tZ 24) 3), faZ 26 44 7 1, stZ 3 26 25]
def K2_DevicelinkSelf_r5 : List SO := [ldZ 28 28 3, ldZ 29 28 3, ldZ 30 44 7, rZ 31 (.call ⟨(.value (.func (12 : Nat))), #[(tZ 28), (tZ 29), (tZ 30)], #[28, 28, 44]⟩), mvZ 27 31, exZ 32 27 0, exZ 33 27 1, rZ 8 (.alloc 26), stZ 26 8 32, asZ 9 33]
def K2_DevicelinkSelf_r6 : List SO := [mvZ 34 9, bcZ 35 .neq 34 34 0 34]
def K2_DevicelinkSelf_r7 : List SO := [faZ 36 26 8 3, ldZ 37 24 36, rZ 38 (.call ⟨(.builtin .len), #[(tZ 37)], #[24]⟩), bcZ 39 .eql 3 38 0 3, asZ 6 39]
def K2_DevicelinkSelf_r8 : List SO := [faZ 40 26 8 0, ldZ 41 3 40, rZ 42 (.makeSlice 24 (tZ 41) (tZ 41)), asZ 10 42]
def K2_DevicelinkSelf_r9 : List SO := [mvZ 43 10, rZ 44 (.call ⟨(.builtin .len), #[(tZ 43)], #[24]⟩), rZ 45 (.move (ciZ 0))]
def K2_DevicelinkSelf_r10 : List SO := [boZ 46 .lss 3 45 44 3]
def K2_DevicelinkSelf_r11 : List SO := [mvZ 47 45, asZ 11 47]
def K2_DevicelinkSelf_r12 : List SO := [mvZ 48 11, mvZ 49 2, rZ 50 (.call ⟨(.builtin .len), #[(tZ 49)], #[24]⟩), boZ 51 .lss 3 48 50 3]
def K2_DevicelinkSelf_r13 : List SO := [mvZ 52 10, mvZ 53 11, mvZ 54 2, mvZ 55 11, iaZ 56 24 54 55, ldZ 57 3 56, faZ 58 44 7 0, ldZ 59 3 58, rZ 60 (.call ⟨(.value (.func (10 : Nat))), #[(tZ 57), (tZ 59)], #[3, 3]⟩), faZ 61 44 7 1, ldZ 62 3 61, boZ 63 .mul 3 60 62 3, iaZ 64 24 52 53, stZ 3 64 63]
def K2_DevicelinkSelf_a13 : List (List Nat) := [[], [], [], [], [2, 3], [4], [], [6], [5, 7], [], [9], [8, 10], [0, 1, 0, 1, 2, 3, 4, 5, 6, 7, 8, 9, 10, 11], [12, 11, 8, 0, 1, 2, 3, 4, 5, 6, 7, 8, 9, 10, 11]]
def K2_DevicelinkSelf_r14 : List SO := [bcZ 65 .add 3 45 1 3, mvZ 45 65]
def K2_DevicelinkSelf_r15 : List SO := [ldZ 67 28 3, ldZ 68 28 3, ldZ 69 26 8, mvZ 70 10, rZ 71 (.call ⟨(.value (.func (13 : Nat))), #[(tZ 67), (tZ 68), (tZ 69), (tZ 70)], #[28, 28, 26, 24]⟩), mvZ 66 71, exZ 72 66 0, exZ 73 66 1, asZ 12 72, asZ 13 73]
def K2_DevicelinkSelf_r16 : List SO := [mvZ 74 13, bcZ 75 .eql 34 74 0 34, mvZ 76 75, gZ 76 true (mvZ 77 12), gZ 76 true (bcZ 78 .eql 3 77 0 3), rZ 79 (.pick (tZ 76) (tZ 78) (.const (.bool false))), asZ 6 79]
def K2_DevicelinkSelf_c : SF := ⟨80, (.seq (.reg K2_DevicelinkSelf_r0)
  (.seq (.seq (.reg K2_DevicelinkSelf_r1)
  (.cond (tZ 15) (.seq (.reg K2_DevicelinkSelf_r2)
  .ret) .skip))
  (.seq (.reg K2_DevicelinkSelf_r3)
  (.seq (.reg K2_DevicelinkSelf_r4)
  (.seq (.reg K2_DevicelinkSelf_r5)
  (.seq (.seq (.reg K2_DevicelinkSelf_r6)
  (.cond (tZ 35) (.seq (.reg K2_DevicelinkSelf_r7)
  .ret) .skip))
  (.seq (.reg K2_DevicelinkSelf_r8)
  (.seq (.seq (.reg K2_DevicelinkSelf_r9)
  (.block 0 (.loop (.seq (.reg K2_DevicelinkSelf_r10)
  (.seq (.cond (tZ 46) .skip (.exit 0))
  (.seq (.block 1 (.seq (.reg K2_DevicelinkSelf_r11)
  (.seq (.reg K2_DevicelinkSelf_r12)
  (.cond (tZ 51) (.regd K2_DevicelinkSelf_r13 K2_DevicelinkSelf_a13) .skip))))
  (.reg K2_DevicelinkSelf_r14)))))))
  (.seq (.reg K2_DevicelinkSelf_r15)
  (.seq (.reg K2_DevicelinkSelf_r16)
  .ret)))))))))), [.tmp 6]⟩
theorem K2_DevicelinkSelf_s : slimF Try.prog 4 = some K2_DevicelinkSelf_c := by kernel_rfl
abbrev K2_DevicelinkSelf_f : Nat := 4

end Go.Proofs.Ytkapjajlkpepmaa
