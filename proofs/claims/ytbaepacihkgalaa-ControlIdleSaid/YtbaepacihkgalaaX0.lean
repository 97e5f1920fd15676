/- Printed by program: the functions' code in few words; the kernel checks it against the translation. -/
import Derived.Test.YtbaepacihkgalaaRows
import Derived.Test.YtbaepacihkgalaaLists
namespace Go.Proofs.Ytbaepacihkgalaa
open Go Go.Lite
set_option linter.unusedVariables false

/-- Int × Int × Int × Int × Int × Int -/
abbrev E6i : Nat := 0
/-- Int × Int -/
abbrev E2i : Nat := 1
/-- Int -/
abbrev Ei : Nat := 2
/-- List (Int) -/
abbrev ELiJ : Nat := 3
/-- Int × Int × List (Int × Int) × List (List (Int)) × Int -/
abbrev E2iL2iJLLiJJi : Nat := 4
@[reducible] def A (e : Nat) : Type := match e with
  | 0 => Int × Int × Int × Int × Int × Int
  | 1 => Int × Int
  | 2 => Int
  | 3 => List (Int)
  | 4 => Int × Int × List (Int × Int) × List (List (Int)) × Int
  | 5 => Int
  | 6 => Int × Int × List (Int)
  | 7 => Int × Int × Int × Int × Int × List (Int) × List (Int)
  | _ => Unit
def eSz (e : Nat) : Nat := match e with
  | 0 => 6
  | 1 => 2
  | 2 => 1
  | 3 => 1
  | 4 => 5
  | 5 => 1
  | 6 => 3
  | 7 => 7
  | _ => 1
def eD (e : Nat) : A e := match e with
  | 0 => ((0 : Int), (0 : Int), (0 : Int), (0 : Int), (0 : Int), (0 : Int))
  | 1 => ((0 : Int), (0 : Int))
  | 2 => (0 : Int)
  | 3 => ([] : List (Int))
  | 4 => ((0 : Int), (0 : Int), ([] : List (Int × Int)), ([] : List (List (Int))), (0 : Int))
  | 5 => (0 : Int)
  | 6 => ((0 : Int), (0 : Int), ([] : List (Int)))
  | 7 => ((0 : Int), (0 : Int), (0 : Int), (0 : Int), (0 : Int), ([] : List (Int)), ([] : List (Int)))
  | _ + 8 => ()
def encL0 (x : Int × Int × Int × Int × Int × Int) : List LV := [.int .i64 (x.1), .int .i64 (x.2.1), .int .i64 (x.2.2.1), .int .i64 (x.2.2.2.1), .int .i64 (x.2.2.2.2.1), .int .i64 (x.2.2.2.2.2)]
def enc0 (x : Int × Int × Int × Int × Int × Int) : List (TV A) := [.int .i64 (x.1), .int .i64 (x.2.1), .int .i64 (x.2.2.1), .int .i64 (x.2.2.2.1), .int .i64 (x.2.2.2.2.1), .int .i64 (x.2.2.2.2.2)]
def dec0 (cs : List (TV A)) : Option (Int × Int × Int × Int × Int × Int) := match cs with
  | [.int .i64 x0, .int .i64 x1, .int .i64 x2, .int .i64 x3, .int .i64 x4, .int .i64 x5] => some (x0, x1, x2, x3, x4, x5)
  | _ => none
def encL1 (x : Int × Int) : List LV := [.int .i64 (x.1), .int .i64 (x.2)]
def enc1 (x : Int × Int) : List (TV A) := [.int .i64 (x.1), .int .i64 (x.2)]
def dec1 (cs : List (TV A)) : Option (Int × Int) := match cs with
  | [.int .i64 x0, .int .i64 x1] => some (x0, x1)
  | _ => none
def encL2 (x : Int) : List LV := [.int .i64 (x)]
def enc2 (x : Int) : List (TV A) := [.int .i64 (x)]
def dec2 (cs : List (TV A)) : Option (Int) := match cs with
  | [.int .i64 x0] => some x0
  | _ => none
def encL3 (x : List (Int)) : List LV := [.ps 1 (List.length (x)) (List.flatMap encL2 (x))]
def enc3 (x : List (Int)) : List (TV A) := [.lst 2 (x)]
def dec3 (cs : List (TV A)) : Option (List (Int)) := match cs with
  | [.lst 2 x0] => some x0
  | _ => none
def encL4 (x : Int × Int × List (Int × Int) × List (List (Int)) × Int) : List LV := [.int .i64 (x.1), .int .i64 (x.2.1), .ps 2 (List.length (x.2.2.1)) (List.flatMap encL1 (x.2.2.1)), .ps 1 (List.length (x.2.2.2.1)) (List.flatMap encL3 (x.2.2.2.1)), .int .i64 (x.2.2.2.2)]
def enc4 (x : Int × Int × List (Int × Int) × List (List (Int)) × Int) : List (TV A) := [.int .i64 (x.1), .int .i64 (x.2.1), .lst 1 (x.2.2.1), .lst 3 (x.2.2.2.1), .int .i64 (x.2.2.2.2)]
def dec4 (cs : List (TV A)) : Option (Int × Int × List (Int × Int) × List (List (Int)) × Int) := match cs with
  | [.int .i64 x0, .int .i64 x1, .lst 1 x2, .lst 3 x3, .int .i64 x4] => some (x0, x1, x2, x3, x4)
  | _ => none
def encL5 (x : Int) : List LV := [.int .u8 (x)]
def enc5 (x : Int) : List (TV A) := [.int .u8 (x)]
def dec5 (cs : List (TV A)) : Option (Int) := match cs with
  | [.int .u8 x0] => some x0
  | _ => none
def encL6 (x : Int × Int × List (Int)) : List LV := [.int .i64 (x.1), .int .i64 (x.2.1), .ps 1 (List.length (x.2.2)) (List.flatMap encL5 (x.2.2))]
def enc6 (x : Int × Int × List (Int)) : List (TV A) := [.int .i64 (x.1), .int .i64 (x.2.1), .lst 5 (x.2.2)]
def dec6 (cs : List (TV A)) : Option (Int × Int × List (Int)) := match cs with
  | [.int .i64 x0, .int .i64 x1, .lst 5 x2] => some (x0, x1, x2)
  | _ => none
def encL7 (x : Int × Int × Int × Int × Int × List (Int) × List (Int)) : List LV := [.int .i64 (x.1), .int .i64 (x.2.1), .int .i64 (x.2.2.1), .int .i64 (x.2.2.2.1), .int .i64 (x.2.2.2.2.1), .ps 1 (List.length (x.2.2.2.2.2.1)) (List.flatMap encL2 (x.2.2.2.2.2.1)), .ps 1 (List.length (x.2.2.2.2.2.2)) (List.flatMap encL2 (x.2.2.2.2.2.2))]
def enc7 (x : Int × Int × Int × Int × Int × List (Int) × List (Int)) : List (TV A) := [.int .i64 (x.1), .int .i64 (x.2.1), .int .i64 (x.2.2.1), .int .i64 (x.2.2.2.1), .int .i64 (x.2.2.2.2.1), .lst 2 (x.2.2.2.2.2.1), .lst 2 (x.2.2.2.2.2.2)]
def dec7 (cs : List (TV A)) : Option (Int × Int × Int × Int × Int × List (Int) × List (Int)) := match cs with
  | [.int .i64 x0, .int .i64 x1, .int .i64 x2, .int .i64 x3, .int .i64 x4, .lst 2 x5, .lst 2 x6] => some (x0, x1, x2, x3, x4, x5, x6)
  | _ => none
def eEncL (e : Nat) (a : A e) : List LV := match e, a with
  | 0, a => encL0 a
  | 1, a => encL1 a
  | 2, a => encL2 a
  | 3, a => encL3 a
  | 4, a => encL4 a
  | 5, a => encL5 a
  | 6, a => encL6 a
  | 7, a => encL7 a
  | _ + 8, _ => [.nilp]
def eEnc (e : Nat) (a : A e) : List (TV A) := match e, a with
  | 0, a => enc0 a
  | 1, a => enc1 a
  | 2, a => enc2 a
  | 3, a => enc3 a
  | 4, a => enc4 a
  | 5, a => enc5 a
  | 6, a => enc6 a
  | 7, a => enc7 a
  | _ + 8, _ => [.nilp]
def eDec (e : Nat) (cs : List (TV A)) : Option (A e) := match e with
  | 0 => dec0 cs
  | 1 => dec1 cs
  | 2 => dec2 cs
  | 3 => dec3 cs
  | 4 => dec4 cs
  | 5 => dec5 cs
  | 6 => dec6 cs
  | 7 => dec7 cs
  | _ + 8 => none
def eEl (t : Nat) : Option Nat := match t with
  | 26 => some 0
  | 29 => some 4
  | 35 => some 1
  | 22 => some 2
  | 23 => some 3
  | 70 => some 5
  | 73 => some 6
  | 78 => some 7
  | _ => none
def fl (e : Nat) : Bool := match e with
  | 0 => true
  | 1 => true
  | 2 => true
  | 3 => false
  | 4 => false
  | 5 => true
  | 6 => false
  | 7 => false
  | _ => false
def eByt (e : Nat) : Option (List (A e) → List Int) := match e with
  | 5 => some fun xs => xs
  | _ => none
theorem flat1 : ∀ xs : List Int, xs.flatMap (fun x => [LV.int .u8 x]) = xs.map (LV.int .u8)
  | [] => rfl
  | x :: r => congrArg (LV.int .u8 x :: ·) (flat1 r)
def R : Reg A := ⟨eSz, eD, eEncL, eEnc, eDec, eEl, eByt⟩
theorem R_ok : R.Ok where
  pos e := by show 0 < eSz e; unfold eSz; split <;> decide
  len e a := match e, a with
    | 0, a => rfl
    | 1, a => rfl
    | 2, a => rfl
    | 3, a => rfl
    | 4, a => rfl
    | 5, a => rfl
    | 6, a => rfl
    | 7, a => rfl
    | e + 8, a => rfl
  ok e a := match e, a with
    | 0, a => rfl
    | 1, a => rfl
    | 2, a => rfl
    | 3, a => rfl
    | 4, a => rfl
    | 5, a => rfl
    | 6, a => rfl
    | 7, a => rfl
    | e + 8, a => rfl
  dec e cs a h := match e, a, h with
    | 0, a, h => by
      replace h : dec0 cs = some a := h
      unfold dec0 at h
      split at h
      · cases h; rfl
      · cases h
    | 1, a, h => by
      replace h : dec1 cs = some a := h
      unfold dec1 at h
      split at h
      · cases h; rfl
      · cases h
    | 2, a, h => by
      replace h : dec2 cs = some a := h
      unfold dec2 at h
      split at h
      · cases h; rfl
      · cases h
    | 3, a, h => by
      replace h : dec3 cs = some a := h
      unfold dec3 at h
      split at h
      · cases h; rfl
      · cases h
    | 4, a, h => by
      replace h : dec4 cs = some a := h
      unfold dec4 at h
      split at h
      · cases h; rfl
      · cases h
    | 5, a, h => by
      replace h : dec5 cs = some a := h
      unfold dec5 at h
      split at h
      · cases h; rfl
      · cases h
    | 6, a, h => by
      replace h : dec6 cs = some a := h
      unfold dec6 at h
      split at h
      · cases h; rfl
      · cases h
    | 7, a, h => by
      replace h : dec7 cs = some a := h
      unfold dec7 at h
      split at h
      · cases h; rfl
      · cases h
    | e + 8, a, h => by cases h
  free e a := match e, a with
    | 0, a => rfl
    | 1, a => rfl
    | 2, a => rfl
    | 3, a => rfl
    | 4, a => rfl
    | 5, a => rfl
    | 6, a => rfl
    | 7, a => rfl
    | e + 8, a => rfl
  sol e a := match e, a with
    | 0, a => rfl
    | 1, a => rfl
    | 2, a => rfl
    | 3, a => rfl
    | 4, a => rfl
    | 5, a => rfl
    | 6, a => rfl
    | 7, a => rfl
    | e + 8, a => rfl
  byt e f h xs := match e, f, h with
    | 0, f, h => by cases h
    | 1, f, h => by cases h
    | 2, f, h => by cases h
    | 3, f, h => by cases h
    | 4, f, h => by cases h
    | 5, f, h => by cases h; exact flat1 xs
    | 6, f, h => by cases h
    | 7, f, h => by cases h
    | e + 8, f, h => by cases h
theorem fl_ok : ∀ e, fl e = true → ∀ a, psfreeL (R.encL e a) = true := fun e h a => match e, h, a with
  | 0, h, a => rfl
  | 1, h, a => rfl
  | 2, h, a => rfl
  | 3, h, a => by cases h
  | 4, h, a => by cases h
  | 5, h, a => rfl
  | 6, h, a => by cases h
  | 7, h, a => by cases h
  | e + 8, h, a => rfl

def tyL : List (Nat × TI) := [(0, ⟨.other, 1, false, [.dead]⟩),
  (25, ⟨.struct [(0, 1, false), (1, 1, false), (2, 1, false), (3, 1, false), (4, 1, false), (5, 1, false), (6, 1, false)], 7, true, [.int .i64 0, .int .i64 0, .int .i64 0, .int .i64 0, .nils, .nils, .nils]⟩),
  (3, ⟨.int .i64, 1, false, [.int .i64 0]⟩),
  (26, ⟨.slice 6 48 [.int .i64 0, .int .i64 0, .int .i64 0, .int .i64 0, .int .i64 0, .int .i64 0], 1, false, [.nils]⟩),
  (30, ⟨.int .i64, 1, false, [.int .i64 0]⟩),
  (29, ⟨.slice 5 72 [.int .i64 0, .int .i64 0, .nils, .nils, .int .i64 0], 1, false, [.nils]⟩),
  (37, ⟨.struct [(0, 1, false), (1, 1, false), (2, 1, false), (3, 1, false), (4, 1, false)], 5, true, [.int .i64 0, .int .i64 0, .nils, .nils, .int .i64 0]⟩),
  (35, ⟨.slice 2 16 [.int .i64 0, .int .i64 0], 1, false, [.nils]⟩),
  (22, ⟨.slice 1 8 [.int .i64 0], 1, false, [.nils]⟩),
  (23, ⟨.slice 1 24 [.nils], 1, false, [.nils]⟩),
  (40, ⟨.struct [(0, 1, false), (1, 1, false)], 2, true, [.int .i64 0, .int .i64 0]⟩),
  (43, ⟨.other, 1, false, [.nilp]⟩),
  (49, ⟨.struct [(0, 1, false), (1, 1, false), (2, 1, false), (3, 1, false), (4, 1, false), (5, 1, false)], 6, true, [.int .i64 0, .int .i64 0, .int .i64 0, .int .i64 0, .int .i64 0, .int .i64 0]⟩),
  (54, ⟨.struct [(0, 1, false), (1, 1, false)], 2, true, [.int .i64 0, .int .i64 0]⟩),
  (61, ⟨.other, 1, false, [.nilp]⟩),
  (70, ⟨.slice 1 1 [.int .u8 0], 1, false, [.nils]⟩),
  (72, ⟨.struct [(0, 1, false), (1, 1, false), (2, 1, false)], 3, true, [.int .i64 0, .int .i64 0, .nils]⟩),
  (73, ⟨.slice 3 40 [.int .i64 0, .int .i64 0, .nils], 1, false, [.nils]⟩),
  (80, ⟨.struct [(0, 3, true), (3, 7, true), (10, 1, false)], 11, true, [.int .i64 0, .int .i64 0, .int .i64 0, .int .i64 0, .int .i64 0, .int .i64 0, .int .i64 0, .nils, .nils, .nils, .nils]⟩),
  (78, ⟨.slice 7 88 [.int .i64 0, .int .i64 0, .int .i64 0, .int .i64 0, .int .i64 0, .nils, .nils], 1, false, [.nils]⟩),
  (83, ⟨.struct [(0, 2, true), (2, 2, true), (4, 1, false), (5, 1, false), (6, 1, false)], 7, true, [.int .i64 0, .int .i64 0, .int .i64 0, .int .i64 0, .int .i64 0, .nils, .nils]⟩),
  (77, ⟨.struct [(0, 1, false), (1, 1, false), (2, 1, false)], 3, true, [.int .i64 0, .int .i64 0, .int .i64 0]⟩),
  (85, ⟨.other, 1, false, [.nilp]⟩),
  (90, ⟨.struct [(0, 7, true), (7, 2, true), (9, 1, false), (10, 1, false)], 11, true, [.int .i64 0, .int .i64 0, .int .i64 0, .int .i64 0, .nils, .nils, .nils, .int .i64 0, .int .i64 0, .nils, .int .i64 0]⟩),
  (92, ⟨.other, 1, false, [.nilp]⟩),
  (95, ⟨.other, 1, false, [.nilp]⟩),
  (5, ⟨.int .u8, 1, false, [.int .u8 0]⟩)]
theorem tyL_ok : okL (tiOf Try.prog) tyL := ⟨by kernel_rfl, by kernel_rfl, by kernel_rfl, by kernel_rfl, by kernel_rfl, by kernel_rfl, by kernel_rfl, by kernel_rfl, by kernel_rfl, by kernel_rfl, by kernel_rfl, by kernel_rfl, by kernel_rfl, by kernel_rfl, by kernel_rfl, by kernel_rfl, by kernel_rfl, by kernel_rfl, by kernel_rfl, by kernel_rfl, by kernel_rfl, by kernel_rfl, by kernel_rfl, by kernel_rfl, by kernel_rfl, by kernel_rfl, by kernel_rfl, trivial⟩
def eqL : List (Nat × List Nat) := [(40, [0, 0]), (49, [0, 0, 0, 0, 0, 0])]
theorem eqL_ok : okL (eqOf Try.prog) eqL := ⟨by kernel_rfl, by kernel_rfl, trivial⟩
def nlL : List (Nat × Nat) := [(30, 0), (3, 0), (43, 2), (61, 2), (40, 0), (49, 0), (5, 0)]
theorem nlL_ok : okN (nilOf Try.prog) nlL := ⟨by kernel_rfl, by kernel_rfl, by kernel_rfl, by kernel_rfl, by kernel_rfl, by kernel_rfl, by kernel_rfl, trivial⟩
noncomputable def ty : TT := ⟨lookT tyL (tiOf Try.prog), lookT eqL (eqOf Try.prog), lookN nlL (nilOf Try.prog)⟩
theorem ty_ok : ty = ttOf Try.prog := by
  unfold ty ttOf
  rw [lookT_eq tyL_ok, lookT_eq eqL_ok, lookN_eq nlL_ok]
def W6i (x : Int × Int × Int × Int × Int × Int) : Prop := rng .i64 x.1 ∧ rng .i64 x.2.1 ∧ rng .i64 x.2.2.1 ∧ rng .i64 x.2.2.2.1 ∧ rng .i64 x.2.2.2.2.1 ∧ rng .i64 x.2.2.2.2.2
def Wi (x : Int) : Prop := rng .i64 x
def WLiJ (x : List (Int)) : Prop := (List.length x ≤ 9223372036854775807 ∧ ∀ y ∈ x, Wi y)
theorem rd6i : R.d E6i = ((0 : Int), (0 : Int), (0 : Int), (0 : Int), (0 : Int), (0 : Int)) := rfl
theorem rd2i : R.d E2i = ((0 : Int), (0 : Int)) := rfl
theorem rdi : R.d Ei = (0 : Int) := rfl
theorem rdLiJ : R.d ELiJ = ([] : List (Int)) := rfl
theorem env : Env A R Try.prog ty fl := ⟨R_ok, ty_ok, fl_ok, by kernel_rfl⟩

abbrev tZ (a : Nat) : Operand := .tmp a
abbrev ciZ (k : Int) : Operand := .const (.int .i64 k)
abbrev mvZ (d a : Nat) : SO := ⟨some d, .move (.tmp a), none⟩
abbrev ldZ (d t a : Nat) : SO := ⟨some d, .load t (.tmp a), none⟩
abbrev faZ (d t a i : Nat) : SO := ⟨some d, .fieldAddr t (.tmp a) i, none⟩
abbrev iaZ (d t a b : Nat) : SO := ⟨some d, .indexAddr t (.tmp a) (.tmp b), none⟩
abbrev asZ (d a : Nat) : SO := ⟨some d, .assign (.tmp a), none⟩
abbrev exZ (d a i : Nat) : SO := ⟨some d, .extract (.tmp a) i, none⟩
abbrev boZ (d : Nat) (o : BinOp) (t a b r : Nat) : SO := ⟨some d, .binOp o t (.tmp a) (.tmp b) r, none⟩
abbrev bcZ (d : Nat) (o : BinOp) (t a : Nat) (k : Int) (r : Nat) : SO := ⟨some d, .binOp o t (.tmp a) (.const (.int .i64 k)) r, none⟩
abbrev stZ (t a b : Nat) : SO := ⟨none, .store t (.tmp a) (.tmp b), none⟩
abbrev gZ (g : Nat) (b : Bool) (s : SO) : SO := ⟨s.dst, s.op, some (g, b)⟩
abbrev rZ (d : Nat) (o : Op) : SO := ⟨some d, o, none⟩

end Go.Proofs.Ytbaepacihkgalaa
namespace Go.Proofs.Ytbaepacihkgalaa
open Go Go.Lite
set_option linter.unusedVariables false

/-- printworks/press.Run -/
def press_Run_r0 : List SO := [rZ 3 (.box 25 (tZ 0)), rZ 6 (.assign (.const (.slice none 0 0))), rZ 7 (.assign (ciZ 0))]
def press_Run_r1 : List SO := [ldZ 17 25 3, rZ 18 (.call ⟨(.value (.func (16 : Nat))), #[(tZ 17)], #[25]⟩), mvZ 16 18, exZ 19 16 0, exZ 20 16 1, asZ 8 19, asZ 9 20]
def press_Run_r2 : List SO := [mvZ 21 9, bcZ 22 .neq 30 21 0 30]
def press_Run_r3 : List SO := [mvZ 23 9, rZ 6 (.assign (.const (.slice none 0 0))), asZ 7 23]
def press_Run_r4 : List SO := [mvZ 24 1, faZ 25 25 3 4, ldZ 26 22 25, rZ 27 (.call ⟨(.builtin .len), #[(tZ 26)], #[22]⟩), faZ 28 25 3 0, ldZ 29 3 28, rZ 30 (.call ⟨(.value (.func (29 : Nat))), #[(tZ 24), (tZ 27), (tZ 29)], #[26, 3, 3]⟩), asZ 10 30]
def press_Run_r5 : List SO := [mvZ 31 10, bcZ 32 .neq 30 31 0 30]
def press_Run_r6 : List SO := [mvZ 33 10, rZ 6 (.assign (.const (.slice none 0 0))), asZ 7 33]
def press_Run_r7 : List SO := [mvZ 34 2, bcZ 35 .lss 3 34 0 3, mvZ 36 35, gZ 36 false (mvZ 37 2), gZ 36 false (bcZ 38 .gtr 3 37 4000 3), rZ 39 (.pick (tZ 36) (.const (.bool true)) (tZ 38))]
def press_Run_r8 : List SO := [rZ 6 (.assign (.const (.slice none 0 0))), rZ 7 (.assign (ciZ 3))]
def press_Run_r9 : List SO := [rZ 11 (.assign (.const (.slice none 0 0)))]
def press_Run_r10 : List SO := [rZ 12 (.assign (ciZ 1))]
def press_Run_r11 : List SO := [mvZ 40 12, mvZ 41 2, boZ 42 .leq 3 40 41 3]
def press_Run_r12 : List SO := [mvZ 45 1, rZ 46 (.call ⟨(.builtin .len), #[(tZ 45)], #[26]⟩), bcZ 47 .gtr 3 46 0 3, mvZ 48 47, gZ 48 true (mvZ 49 1), gZ 48 true (rZ 50 (.indexAddr 26 (tZ 49) (ciZ 0))), gZ 48 true (faZ 51 49 50 0), gZ 48 true (ldZ 52 3 51), gZ 48 true (mvZ 53 12), gZ 48 true (boZ 54 .eql 3 52 53 3), rZ 55 (.pick (tZ 48) (tZ 54) (.const (.bool false)))]
def press_Run_r13 : List SO := [mvZ 56 8, mvZ 57 1, rZ 58 (.indexAddr 26 (tZ 57) (ciZ 0)), ldZ 59 49 58, rZ 60 (.call ⟨(.value (.func (18 : Nat))), #[(tZ 56), (tZ 59)], #[43, 49]⟩), asZ 13 60]
def press_Run_r14 : List SO := [mvZ 61 13, bcZ 62 .neq 30 61 0 30]
def press_Run_r15 : List SO := [mvZ 63 13, rZ 6 (.assign (.const (.slice none 0 0))), asZ 7 63]
def press_Run_r16 : List SO := [mvZ 64 1, rZ 65 (.slice 26 (tZ 64) (some (ciZ 1)) none none), asZ 1 65]
def press_Run_r17 : List SO := [mvZ 67 8, rZ 68 (.call ⟨(.value (.func (19 : Nat))), #[(tZ 67)], #[43]⟩), mvZ 66 68, exZ 69 66 0, exZ 70 66 1, rZ 14 (.alloc 37), stZ 37 14 69, asZ 15 70]
def press_Run_r18 : List SO := [mvZ 71 15, bcZ 72 .neq 30 71 0 30]
def press_Run_r19 : List SO := [mvZ 73 15, rZ 6 (.assign (.const (.slice none 0 0))), asZ 7 73]
def press_Run_r20 : List SO := [mvZ 74 11, ldZ 75 37 14, rZ 76 (.buildSlice 29 1 #[(0, (tZ 75))]), rZ 77 (.call ⟨(.builtin .append), #[(tZ 74), (tZ 76)], #[29, 29]⟩), asZ 11 77]
def press_Run_r21 : List SO := [mvZ 43 12, bcZ 44 .add 3 43 1 3, asZ 12 44]
def press_Run_r22 : List SO := [mvZ 78 11, asZ 6 78, rZ 7 (.assign (ciZ 0))]
def press_Run_c : SF := ⟨79, (.seq (.reg press_Run_r0)
  (.seq (.reg press_Run_r1)
  (.seq (.seq (.reg press_Run_r2)
  (.cond (tZ 22) (.seq (.reg press_Run_r3)
  .ret) .skip))
  (.seq (.seq (.reg press_Run_r4)
  (.seq (.reg press_Run_r5)
  (.cond (tZ 32) (.seq (.reg press_Run_r6)
  .ret) .skip)))
  (.seq (.seq (.reg press_Run_r7)
  (.cond (tZ 39) (.seq (.reg press_Run_r8)
  .ret) .skip))
  (.seq (.reg press_Run_r9)
  (.seq (.seq (.reg press_Run_r10)
  (.block 0 (.loop (.seq (.seq (.reg press_Run_r11)
  (.cond (tZ 42) .skip (.exit 0)))
  (.seq (.block 1 (.seq (.block 2 (.loop (.seq (.seq (.reg press_Run_r12)
  (.cond (tZ 55) .skip (.exit 2)))
  (.block 3 (.seq (.seq (.reg press_Run_r13)
  (.seq (.reg press_Run_r14)
  (.cond (tZ 62) (.seq (.reg press_Run_r15)
  .ret) .skip)))
  (.reg press_Run_r16))))))
  (.seq (.reg press_Run_r17)
  (.seq (.seq (.reg press_Run_r18)
  (.cond (tZ 72) (.seq (.reg press_Run_r19)
  .ret) .skip))
  (.reg press_Run_r20)))))
  (.reg press_Run_r21))))))
  (.seq (.reg press_Run_r22)
  .ret)))))))), [.tmp 6, .tmp 7]⟩
theorem press_Run_s : slimF Try.prog 12 = some press_Run_c := by kernel_rfl
abbrev press_Run_f : Nat := 12
/-- printworks/press.New -/
def press_New_r0 : List SO := [rZ 1 (.box 25 (tZ 0)), rZ 2 (.assign (.const (.pointer none))), rZ 3 (.assign (ciZ 0))]
def press_New_r1 : List SO := [ldZ 8 25 1, rZ 9 (.call ⟨(.value (.func (30 : Nat))), #[(tZ 8)], #[25]⟩), asZ 4 9]
def press_New_r2 : List SO := [mvZ 10 4, bcZ 11 .neq 30 10 0 30]
def press_New_r3 : List SO := [mvZ 12 4, rZ 2 (.assign (.const (.pointer none))), asZ 3 12]
def press_New_r4 : List SO := [ldZ 13 25 1, rZ 14 (.build 80 #[(1, (tZ 13))]), rZ 15 (.box 80 (tZ 14)), asZ 5 15]
def press_New_r5 : List SO := [mvZ 16 5, faZ 17 25 1 4, ldZ 18 22 17, rZ 19 (.call ⟨(.builtin .append), #[(.const (.slice none 0 0)), (tZ 18)], #[22, 22]⟩), rZ 20 (.nilCheck (tZ 16)), faZ 21 80 20 1, faZ 22 25 21 4, stZ 22 22 19]
def press_New_r6 : List SO := [mvZ 23 5, faZ 24 25 1 6, ldZ 25 23 24, rZ 26 (.call ⟨(.value (.func (31 : Nat))), #[(tZ 25)], #[23]⟩), rZ 27 (.nilCheck (tZ 23)), faZ 28 80 27 1, faZ 29 25 28 6, stZ 23 29 26]
def press_New_r7 : List SO := [faZ 30 25 1 5, ldZ 31 23 30, rZ 32 (.call ⟨(.value (.func (31 : Nat))), #[(tZ 31)], #[23]⟩), rZ 33 (.call ⟨(.builtin .len), #[(tZ 32)], #[23]⟩), rZ 34 (.move (ciZ 0))]
def press_New_r8 : List SO := [boZ 35 .lss 3 34 33 3]
def press_New_r9 : List SO := [iaZ 36 23 32 34, ldZ 37 22 36, asZ 7 37]
def press_New_r10 : List SO := [mvZ 38 5, mvZ 39 5, rZ 40 (.nilCheck (tZ 39)), faZ 41 80 40 2, ldZ 42 78 41, mvZ 43 7, faZ 44 25 1 0, ldZ 45 3 44, rZ 46 (.makeSlice 22 (tZ 45) (tZ 45)), rZ 47 (.build 83 #[(2, (ciZ 8)), (3, (tZ 43)), (4, (tZ 46))]), rZ 48 (.buildSlice 78 1 #[(0, (tZ 47))]), rZ 49 (.call ⟨(.builtin .append), #[(tZ 42), (tZ 48)], #[78, 78]⟩), rZ 50 (.nilCheck (tZ 38)), faZ 51 80 50 2, stZ 78 51 49]
def press_New_a10 : List (List Nat) := [[], [], [1], [2], [3], [], [], [6], [7, 7], [5, 8], [9], [4, 10], [0, 0, 1, 2, 3, 4, 5, 6, 7, 8, 9, 10, 11], [12, 0, 1, 2, 3, 4, 5, 6, 7, 8, 9, 10, 11], [13, 11, 11, 0, 1, 2, 3, 4, 5, 6, 7, 8, 9, 10, 11]]
def press_New_r11 : List SO := [bcZ 52 .add 3 34 1 3, mvZ 34 52]
def press_New_r12 : List SO := [mvZ 53 5, asZ 2 53, rZ 3 (.assign (ciZ 0))]
def press_New_c : SF := ⟨54, (.seq (.reg press_New_r0)
  (.seq (.seq (.reg press_New_r1)
  (.seq (.reg press_New_r2)
  (.cond (tZ 11) (.seq (.reg press_New_r3)
  .ret) .skip)))
  (.seq (.reg press_New_r4)
  (.seq (.reg press_New_r5)
  (.seq (.reg press_New_r6)
  (.seq (.seq (.reg press_New_r7)
  (.block 0 (.loop (.seq (.reg press_New_r8)
  (.seq (.cond (tZ 35) .skip (.exit 0))
  (.seq (.block 1 (.seq (.reg press_New_r9)
  (.regd press_New_r10 press_New_a10)))
  (.reg press_New_r11)))))))
  (.seq (.reg press_New_r12)
  .ret))))))), [.tmp 2, .tmp 3]⟩
theorem press_New_s : slimF Try.prog 16 = some press_New_c := by kernel_rfl
abbrev press_New_f : Nat := 16
/-- (*printworks/press.Press).Keys -/
def __press_Press__Keys_r0 : List SO := [rZ 2 (.assign (.const (.slice none 0 0)))]
def __press_Press__Keys_r1 : List SO := [rZ 3 (.assign (.const (.slice none 0 0)))]
def __press_Press__Keys_r2 : List SO := [mvZ 6 0, rZ 7 (.nilCheck (tZ 6)), faZ 8 80 7 2, ldZ 9 78 8, rZ 10 (.call ⟨(.builtin .len), #[(tZ 9)], #[78]⟩), rZ 11 (.move (ciZ 0))]
def __press_Press__Keys_r3 : List SO := [boZ 12 .lss 3 11 10 3]
def __press_Press__Keys_r4 : List SO := [iaZ 13 78 9 11, ldZ 14 83 13, rZ 5 (.alloc 83), stZ 83 5 14]
def __press_Press__Keys_r5 : List SO := [mvZ 15 3, faZ 16 83 5 3, ldZ 17 22 16, rZ 18 (.call ⟨(.builtin .append), #[(.const (.slice none 0 0)), (tZ 17)], #[22, 22]⟩), rZ 19 (.buildSlice 23 1 #[(0, (tZ 18))]), rZ 20 (.call ⟨(.builtin .append), #[(tZ 15), (tZ 19)], #[23, 23]⟩), asZ 3 20]
def __press_Press__Keys_r6 : List SO := [bcZ 21 .add 3 11 1 3, mvZ 11 21]
def __press_Press__Keys_r7 : List SO := [mvZ 22 3, asZ 2 22]
def __press_Press__Keys_c : SF := ⟨23, (.seq (.reg __press_Press__Keys_r0)
  (.seq (.reg __press_Press__Keys_r1)
  (.seq (.seq (.reg __press_Press__Keys_r2)
  (.block 0 (.loop (.seq (.reg __press_Press__Keys_r3)
  (.seq (.cond (tZ 12) .skip (.exit 0))
  (.seq (.block 1 (.seq (.reg __press_Press__Keys_r4)
  (.reg __press_Press__Keys_r5)))
  (.reg __press_Press__Keys_r6)))))))
  (.seq (.reg __press_Press__Keys_r7)
  .ret)))), [.tmp 2]⟩
theorem __press_Press__Keys_s : slimF Try.prog 17 = some __press_Press__Keys_c := by kernel_rfl
abbrev __press_Press__Keys_f : Nat := 17
/-- (*printworks/press.Press).Event -/
def __press_Press__Event_r0 : List SO := [rZ 3 (.box 49 (tZ 1)), rZ 4 (.assign (ciZ 0))]
def __press_Press__Event_r1 : List SO := [ldZ 9 49 3, mvZ 10 0, rZ 11 (.nilCheck (tZ 10)), faZ 12 80 11 2, ldZ 13 78 12, rZ 14 (.call ⟨(.builtin .len), #[(tZ 13)], #[78]⟩), mvZ 15 0, rZ 16 (.nilCheck (tZ 15)), faZ 17 80 16 1, faZ 18 25 17 0, ldZ 19 3 18, rZ 20 (.call ⟨(.value (.func (32 : Nat))), #[(tZ 9), (tZ 14), (tZ 19)], #[49, 3, 3]⟩), asZ 5 20]
def __press_Press__Event_a1 : List (List Nat) := [[], [], [1], [2], [3], [4], [], [6], [7], [8], [9], [0, 5, 10], [11, 11, 0, 1, 2, 3, 4, 5, 6, 7, 8, 9, 10, 11]]
def __press_Press__Event_r2 : List SO := [mvZ 21 5, bcZ 22 .neq 30 21 0 30]
def __press_Press__Event_r3 : List SO := [mvZ 23 5, asZ 4 23]
def __press_Press__Event_r4 : List SO := [faZ 24 49 3 0, ldZ 25 3 24, mvZ 26 0, rZ 27 (.nilCheck (tZ 26)), faZ 28 80 27 0, faZ 29 77 28 0, ldZ 30 3 29, bcZ 31 .add 3 30 1 3, boZ 32 .neq 3 25 31 3]
def __press_Press__Event_a4 : List (List Nat) := [[], [0], [], [2], [3], [4], [5], [6], [1, 7]]
def __press_Press__Event_r5 : List SO := [rZ 4 (.assign (ciZ 18))]
def __press_Press__Event_r6 : List SO := [mvZ 33 0, rZ 34 (.nilCheck (tZ 33)), faZ 35 80 34 2, ldZ 36 78 35, faZ 37 49 3 2, ldZ 38 3 37, iaZ 39 78 36 38, asZ 6 39]
def __press_Press__Event_a6 : List (List Nat) := [[], [0], [1], [2], [], [4], [3, 5], [6, 0, 1, 2, 3, 4, 5, 6]]
def __press_Press__Event_r7 : List SO := [faZ 40 49 3 1, ldZ 41 3 40]
def __press_Press__Event_r8 : List SO := [bcZ 43 .eql 3 41 0 3, asZ 42 43]
def __press_Press__Event_r9 : List SO := [mvZ 44 6, faZ 45 49 3 4, ldZ 46 3 45, faZ 47 49 3 5, ldZ 48 3 47, rZ 49 (.build 40 #[(0, (tZ 46)), (1, (tZ 48))]), rZ 50 (.nilCheck (tZ 44)), faZ 51 83 50 1, stZ 40 51 49]
def __press_Press__Event_r10 : List SO := [bcZ 53 .eql 3 41 1 3, asZ 52 53]
def __press_Press__Event_r11 : List SO := [mvZ 54 6, rZ 55 (.nilCheck (tZ 54)), faZ 56 83 55 3, ldZ 57 22 56, faZ 58 49 3 3, ldZ 59 3 58, faZ 60 49 3 4, ldZ 61 3 60, iaZ 62 22 57 59, stZ 3 62 61]
def __press_Press__Event_a11 : List (List Nat) := [[], [0], [1], [2], [], [4], [], [6], [3, 5, 0, 1, 2, 3, 4, 5, 6, 7], [8, 7, 0, 1, 2, 3, 4, 5, 6, 7]]
def __press_Press__Event_r12 : List SO := [bcZ 64 .eql 3 41 2 3, asZ 63 64]
def __press_Press__Event_r13 : List SO := [mvZ 65 6, faZ 66 49 3 4, ldZ 67 3 66, rZ 68 (.nilCheck (tZ 65)), faZ 69 83 68 2, stZ 3 69 67]
def __press_Press__Event_r14 : List SO := [bcZ 71 .eql 3 41 3 3, asZ 70 71]
def __press_Press__Event_r15 : List SO := [mvZ 72 0, mvZ 73 0, rZ 74 (.nilCheck (tZ 73)), faZ 75 80 74 0, faZ 76 77 75 2, ldZ 77 3 76, faZ 78 49 3 4, ldZ 79 3 78, rZ 80 (.call ⟨(.builtin .max), #[(tZ 77), (tZ 79)], #[3, 3]⟩), rZ 81 (.nilCheck (tZ 72)), faZ 82 80 81 0, faZ 83 77 82 2, stZ 3 83 80]
def __press_Press__Event_a15 : List (List Nat) := [[], [], [1], [2], [3], [4], [], [6], [5, 7], [0, 0, 1, 2, 3, 4, 5, 6, 7, 8], [9, 0, 1, 2, 3, 4, 5, 6, 7, 8], [10, 0, 1, 2, 3, 4, 5, 6, 7, 8], [11, 8, 0, 1, 2, 3, 4, 5, 6, 7, 8]]
def __press_Press__Event_r16 : List SO := [bcZ 85 .eql 3 41 4 3, asZ 84 85]
def __press_Press__Event_r17 : List SO := [mvZ 86 6, faZ 87 49 3 4, ldZ 88 3 87, faZ 89 49 3 5, ldZ 90 3 89, rZ 91 (.build 40 #[(0, (tZ 88)), (1, (tZ 90))]), rZ 92 (.call ⟨(.value (.func (33 : Nat))), #[(tZ 86), (tZ 91)], #[85, 40]⟩)]
def __press_Press__Event_r18 : List SO := [bcZ 94 .eql 3 41 5 3, asZ 93 94]
def __press_Press__Event_r19 : List SO := [mvZ 95 6, rZ 96 (.nilCheck (tZ 95)), faZ 97 83 96 4, ldZ 98 22 97, ⟨none, .call ⟨(.builtin .clear), #[(tZ 98)], #[22]⟩, none⟩]
def __press_Press__Event_r20 : List SO := [mvZ 99 0, rZ 100 (.nilCheck (tZ 99)), faZ 101 80 100 0, faZ 102 77 101 1, ⟨none, .store 3 (tZ 102) (ciZ 0), none⟩]
def __press_Press__Event_r21 : List SO := [bcZ 104 .eql 3 41 6 3, asZ 103 104]
def __press_Press__Event_r22 : List SO := [mvZ 105 0, rZ 106 (.nilCheck (tZ 105)), faZ 107 80 106 2, ldZ 108 78 107, rZ 109 (.call ⟨(.builtin .len), #[(tZ 108)], #[78]⟩), rZ 110 (.move (ciZ 0))]
def __press_Press__Event_r23 : List SO := [boZ 111 .lss 3 110 109 3]
def __press_Press__Event_r24 : List SO := [mvZ 112 110, asZ 7 112]
def __press_Press__Event_r25 : List SO := [mvZ 113 0, rZ 114 (.nilCheck (tZ 113)), faZ 115 80 114 2, ldZ 116 78 115, mvZ 117 7, iaZ 118 78 116 117, faZ 119 83 118 4, ldZ 120 22 119, rZ 121 (.call ⟨(.builtin .len), #[(tZ 120)], #[22]⟩), rZ 122 (.move (ciZ 0))]
def __press_Press__Event_r26 : List SO := [boZ 123 .lss 3 122 121 3]
def __press_Press__Event_r27 : List SO := [mvZ 124 122, asZ 8 124]
def __press_Press__Event_r28 : List SO := [mvZ 125 0, rZ 126 (.nilCheck (tZ 125)), faZ 127 80 126 2, ldZ 128 78 127, mvZ 129 7, iaZ 130 78 128 129, faZ 131 83 130 4, ldZ 132 22 131, mvZ 133 8, iaZ 134 22 132 133, ldZ 135 3 134, bcZ 136 .quo 3 135 2 3, iaZ 137 22 132 133, stZ 3 137 136]
def __press_Press__Event_r29 : List SO := [bcZ 138 .add 3 122 1 3, mvZ 122 138]
def __press_Press__Event_r30 : List SO := [bcZ 139 .add 3 110 1 3, mvZ 110 139]
def __press_Press__Event_r31 : List SO := [rZ 4 (.assign (ciZ 0))]
def __press_Press__Event_c : SF := ⟨140, (.seq (.reg __press_Press__Event_r0)
  (.seq (.seq (.regd __press_Press__Event_r1 __press_Press__Event_a1)
  (.seq (.reg __press_Press__Event_r2)
  (.cond (tZ 22) (.seq (.reg __press_Press__Event_r3)
  .ret) .skip)))
  (.seq (.seq (.regd __press_Press__Event_r4 __press_Press__Event_a4)
  (.cond (tZ 32) (.seq (.reg __press_Press__Event_r5)
  .ret) .skip))
  (.seq (.regd __press_Press__Event_r6 __press_Press__Event_a6)
  (.seq (.seq (.reg __press_Press__Event_r7)
  (.block 0 (.seq (.reg __press_Press__Event_r8)
  (.cond (tZ 42) (.reg __press_Press__Event_r9) (.seq (.reg __press_Press__Event_r10)
  (.cond (tZ 52) (.regd __press_Press__Event_r11 __press_Press__Event_a11) (.seq (.reg __press_Press__Event_r12)
  (.cond (tZ 63) (.reg __press_Press__Event_r13) (.seq (.reg __press_Press__Event_r14)
  (.cond (tZ 70) (.regd __press_Press__Event_r15 __press_Press__Event_a15) (.seq (.reg __press_Press__Event_r16)
  (.cond (tZ 84) (.reg __press_Press__Event_r17) (.seq (.reg __press_Press__Event_r18)
  (.cond (tZ 93) (.seq (.reg __press_Press__Event_r19)
  (.reg __press_Press__Event_r20)) (.seq (.reg __press_Press__Event_r21)
  (.cond (tZ 103) (.seq (.reg __press_Press__Event_r22)
  (.block 1 (.loop (.seq (.reg __press_Press__Event_r23)
  (.seq (.cond (tZ 111) .skip (.exit 1))
  (.seq (.block 2 (.seq (.reg __press_Press__Event_r24)
  (.seq (.reg __press_Press__Event_r25)
  (.block 3 (.loop (.seq (.reg __press_Press__Event_r26)
  (.seq (.cond (tZ 123) .skip (.exit 3))
  (.seq (.block 4 (.seq (.reg __press_Press__Event_r27)
  (.reg __press_Press__Event_r28)))
  (.reg __press_Press__Event_r29)))))))))
  (.reg __press_Press__Event_r30))))))) .skip))))))))))))))))
  (.seq (.reg __press_Press__Event_r31)
  .ret)))))), [.tmp 4]⟩
theorem __press_Press__Event_s : slimF Try.prog 18 = some __press_Press__Event_c := by kernel_rfl
abbrev __press_Press__Event_f : Nat := 18
/-- (*printworks/press.Press).Feed -/
def __press_Press__Feed_r0 : List SO := [rZ 2 (.alloc 37), rZ 3 (.assign (ciZ 0))]
def __press_Press__Feed_r1 : List SO := [mvZ 12 0, rZ 13 (.nilCheck (tZ 12)), faZ 14 80 13 0, faZ 15 77 14 0, ldZ 16 3 15, bcZ 17 .eql 3 16 4000 3]
def __press_Press__Feed_r2 : List SO := [rZ 18 (.build 37 #[]), stZ 37 2 18, rZ 3 (.assign (ciZ 16))]
def __press_Press__Feed_r3 : List SO := [mvZ 19 0, rZ 20 (.nilCheck (tZ 19)), faZ 21 80 20 0, faZ 22 77 21 0, ldZ 23 3 22, bcZ 24 .add 3 23 1 3, rZ 25 (.nilCheck (tZ 19)), faZ 26 80 25 0, faZ 27 77 26 0, stZ 3 27 24]
def __press_Press__Feed_r4 : List SO := [mvZ 28 0, rZ 29 (.nilCheck (tZ 28)), faZ 30 80 29 0, faZ 31 77 30 1, ldZ 32 3 31, bcZ 33 .add 3 32 1 3, rZ 34 (.nilCheck (tZ 28)), faZ 35 80 34 0, faZ 36 77 35 1, stZ 3 36 33]
def __press_Press__Feed_r5 : List SO := [mvZ 37 0, rZ 38 (.nilCheck (tZ 37)), faZ 39 80 38 0, faZ 40 77 39 0, ldZ 41 3 40, rZ 42 (.build 37 #[(0, (tZ 41)), (1, (ciZ 1))]), rZ 4 (.alloc 37), stZ 37 4 42]
def __press_Press__Feed_r6 : List SO := [mvZ 43 0, rZ 44 (.nilCheck (tZ 43)), faZ 45 80 44 1, faZ 46 25 45 0, ldZ 47 3 46, rZ 48 (.makeSlice 22 (tZ 47) (tZ 47)), asZ 5 48]
def __press_Press__Feed_r7 : List SO := [mvZ 49 0, rZ 50 (.nilCheck (tZ 49)), faZ 51 80 50 2, ldZ 52 78 51, rZ 53 (.call ⟨(.builtin .len), #[(tZ 52)], #[78]⟩), rZ 54 (.move (ciZ 0))]
def __press_Press__Feed_r8 : List SO := [boZ 55 .lss 3 54 53 3]
def __press_Press__Feed_r9 : List SO := [mvZ 56 54, asZ 6 56]
def __press_Press__Feed_r10 : List SO := [mvZ 57 0, rZ 58 (.nilCheck (tZ 57)), faZ 59 80 58 2, ldZ 60 78 59, mvZ 61 6, iaZ 62 78 60 61, asZ 7 62]
def __press_Press__Feed_r11 : List SO := [mvZ 63 7, mvZ 64 7, rZ 65 (.nilCheck (tZ 64)), faZ 66 83 65 1, ldZ 67 40 66, rZ 68 (.call ⟨(.value (.func (33 : Nat))), #[(tZ 63), (tZ 67)], #[85, 40]⟩)]
def __press_Press__Feed_r12 : List SO := [mvZ 69 7, rZ 70 (.nilCheck (tZ 69)), faZ 71 83 70 4, ldZ 72 22 71, rZ 73 (.call ⟨(.builtin .len), #[(tZ 72)], #[22]⟩), rZ 74 (.move (ciZ 0))]
def __press_Press__Feed_r13 : List SO := [boZ 75 .lss 3 74 73 3]
def __press_Press__Feed_r14 : List SO := [mvZ 76 74, asZ 8 76]
def __press_Press__Feed_r15 : List SO := [mvZ 77 7, mvZ 78 8, mvZ 79 0, rZ 80 (.nilCheck (tZ 79)), faZ 81 80 80 1, faZ 82 25 81 6, ldZ 83 23 82, mvZ 84 6, iaZ 85 23 83 84, ldZ 86 22 85, mvZ 87 8, iaZ 88 22 86 87, ldZ 89 3 88, rZ 90 (.call ⟨(.value (.func (34 : Nat))), #[(tZ 77), (tZ 78), (tZ 89)], #[85, 3, 3]⟩)]
def __press_Press__Feed_r16 : List SO := [mvZ 91 5, mvZ 92 8, iaZ 93 22 91 92, ldZ 94 3 93, mvZ 95 7, rZ 96 (.nilCheck (tZ 95)), faZ 97 83 96 4, ldZ 98 22 97, mvZ 99 8, iaZ 100 22 98 99, ldZ 101 3 100, boZ 102 .add 3 94 101 3, iaZ 103 22 91 92, stZ 3 103 102]
def __press_Press__Feed_a16 : List (List Nat) := [[], [], [0, 1], [2], [], [4], [5], [6], [], [7, 8], [9], [3, 10], [0, 1, 0, 1, 2, 3, 4, 5, 6, 7, 8, 9, 10, 11], [12, 11, 0, 1, 2, 3, 4, 5, 6, 7, 8, 9, 10, 11]]
def __press_Press__Feed_r17 : List SO := [bcZ 104 .add 3 74 1 3, mvZ 74 104]
def __press_Press__Feed_r18 : List SO := [faZ 105 37 4 2, ldZ 106 35 105, mvZ 107 7, rZ 108 (.nilCheck (tZ 107)), faZ 109 83 108 0, ldZ 110 40 109, rZ 111 (.buildSlice 35 1 #[(0, (tZ 110))]), rZ 112 (.call ⟨(.builtin .append), #[(tZ 106), (tZ 111)], #[35, 35]⟩), faZ 113 37 4 2, stZ 35 113 112]
def __press_Press__Feed_a18 : List (List Nat) := [[], [0], [], [2], [3], [4], [5], [1, 6], [0, 1, 2, 3, 4, 5, 6, 7], [8, 7, 7, 0, 1, 2, 3, 4, 5, 6, 7]]
def __press_Press__Feed_r19 : List SO := [faZ 114 37 4 3, ldZ 115 23 114, mvZ 116 7, rZ 117 (.nilCheck (tZ 116)), faZ 118 83 117 4, ldZ 119 22 118, rZ 120 (.call ⟨(.builtin .append), #[(.const (.slice none 0 0)), (tZ 119)], #[22, 22]⟩), rZ 121 (.buildSlice 23 1 #[(0, (tZ 120))]), rZ 122 (.call ⟨(.builtin .append), #[(tZ 115), (tZ 121)], #[23, 23]⟩), faZ 123 37 4 3, stZ 23 123 122]
def __press_Press__Feed_a19 : List (List Nat) := [[], [0], [], [2], [3], [4], [5], [6], [1, 7, 6], [0, 1, 2, 3, 4, 5, 6, 7, 8], [9, 8, 8, 0, 1, 2, 3, 4, 5, 6, 7, 8]]
def __press_Press__Feed_r20 : List SO := [bcZ 124 .add 3 54 1 3, mvZ 54 124]
def __press_Press__Feed_r21 : List SO := [rZ 9 (.assign (ciZ 0))]
def __press_Press__Feed_r22 : List SO := [mvZ 125 5, rZ 126 (.call ⟨(.builtin .len), #[(tZ 125)], #[22]⟩), rZ 127 (.move (ciZ 0))]
def __press_Press__Feed_r23 : List SO := [boZ 128 .lss 3 127 126 3]
def __press_Press__Feed_r24 : List SO := [iaZ 129 22 125 127, ldZ 130 3 129, asZ 11 130]
def __press_Press__Feed_r25 : List SO := [mvZ 131 9, mvZ 132 11, rZ 133 (.call ⟨(.builtin .max), #[(tZ 131), (tZ 132)], #[3, 3]⟩), asZ 9 133]
def __press_Press__Feed_r26 : List SO := [bcZ 134 .add 3 127 1 3, mvZ 127 134]
def __press_Press__Feed_r27 : List SO := [mvZ 135 0, rZ 136 (.nilCheck (tZ 135)), faZ 137 80 136 0, faZ 138 77 137 0, ldZ 139 3 138, bcZ 140 .add 3 139 50 3, mvZ 141 9, bcZ 142 .quo 3 141 500 3, boZ 143 .add 3 140 142 3, faZ 144 37 4 4, stZ 3 144 143]
def __press_Press__Feed_r28 : List SO := [mvZ 146 0, rZ 147 (.nilCheck (tZ 146)), faZ 148 80 147 0, faZ 149 77 148 2, ldZ 150 3 149, bcZ 151 .gtr 3 150 0 3, asZ 145 151]
def __press_Press__Feed_r29 : List SO := [mvZ 152 0, rZ 153 (.nilCheck (tZ 152)), faZ 154 80 153 0, faZ 155 77 154 2, ldZ 156 3 155, bcZ 157 .sub 3 156 1 3, rZ 158 (.nilCheck (tZ 152)), faZ 159 80 158 0, faZ 160 77 159 2, stZ 3 160 157]
def __press_Press__Feed_r30 : List SO := [faZ 161 37 4 1, ⟨none, .store 3 (tZ 161) (ciZ 2), none⟩]
def __press_Press__Feed_r31 : List SO := [mvZ 163 0, rZ 164 (.call ⟨(.value (.func (35 : Nat))), #[(tZ 163)], #[43]⟩), asZ 162 164]
def __press_Press__Feed_r32 : List SO := [faZ 165 37 4 1, ⟨none, .store 3 (tZ 165) (ciZ 0), none⟩]
def __press_Press__Feed_r33 : List SO := [ldZ 166 37 4, stZ 37 2 166, rZ 3 (.assign (ciZ 0))]
def __press_Press__Feed_c : SF := ⟨167, (.seq (.reg __press_Press__Feed_r0)
  (.seq (.seq (.reg __press_Press__Feed_r1)
  (.cond (tZ 17) (.seq (.reg __press_Press__Feed_r2)
  .ret) .skip))
  (.seq (.reg __press_Press__Feed_r3)
  (.seq (.reg __press_Press__Feed_r4)
  (.seq (.reg __press_Press__Feed_r5)
  (.seq (.reg __press_Press__Feed_r6)
  (.seq (.seq (.reg __press_Press__Feed_r7)
  (.block 0 (.loop (.seq (.reg __press_Press__Feed_r8)
  (.seq (.cond (tZ 55) .skip (.exit 0))
  (.seq (.block 1 (.seq (.reg __press_Press__Feed_r9)
  (.seq (.reg __press_Press__Feed_r10)
  (.seq (.reg __press_Press__Feed_r11)
  (.seq (.seq (.reg __press_Press__Feed_r12)
  (.block 2 (.loop (.seq (.reg __press_Press__Feed_r13)
  (.seq (.cond (tZ 75) .skip (.exit 2))
  (.seq (.block 3 (.seq (.reg __press_Press__Feed_r14)
  (.seq (.reg __press_Press__Feed_r15)
  (.regd __press_Press__Feed_r16 __press_Press__Feed_a16))))
  (.reg __press_Press__Feed_r17)))))))
  (.seq (.regd __press_Press__Feed_r18 __press_Press__Feed_a18)
  (.regd __press_Press__Feed_r19 __press_Press__Feed_a19)))))))
  (.reg __press_Press__Feed_r20)))))))
  (.seq (.reg __press_Press__Feed_r21)
  (.seq (.seq (.reg __press_Press__Feed_r22)
  (.block 4 (.loop (.seq (.reg __press_Press__Feed_r23)
  (.seq (.cond (tZ 128) .skip (.exit 4))
  (.seq (.block 5 (.seq (.reg __press_Press__Feed_r24)
  (.reg __press_Press__Feed_r25)))
  (.reg __press_Press__Feed_r26)))))))
  (.seq (.reg __press_Press__Feed_r27)
  (.seq (.block 6 (.seq (.reg __press_Press__Feed_r28)
  (.cond (tZ 145) (.seq (.reg __press_Press__Feed_r29)
  (.reg __press_Press__Feed_r30)) (.seq (.reg __press_Press__Feed_r31)
  (.cond (tZ 162) (.reg __press_Press__Feed_r32) .skip)))))
  (.seq (.reg __press_Press__Feed_r33)
  .ret)))))))))))), [.cell 2 37, .tmp 3]⟩
theorem __press_Press__Feed_s : slimF Try.prog 19 = some __press_Press__Feed_c := by kernel_rfl
abbrev __press_Press__Feed_f : Nat := 19
/-- printworks/press.CheckScript -/
def press_CheckScript_r0 : List SO := [rZ 6 (.assign (ciZ 0))]
def press_CheckScript_r1 : List SO := [mvZ 10 0, rZ 11 (.call ⟨(.builtin .len), #[(tZ 10)], #[26]⟩), bcZ 12 .gtr 3 11 200 3]
def press_CheckScript_r2 : List SO := [rZ 6 (.assign (ciZ 2))]
def press_CheckScript_r3 : List SO := [mvZ 13 0, rZ 14 (.call ⟨(.builtin .len), #[(tZ 13)], #[26]⟩), rZ 15 (.move (ciZ 0))]
def press_CheckScript_r4 : List SO := [boZ 16 .lss 3 15 14 3]
def press_CheckScript_r5 : List SO := [mvZ 17 15, iaZ 18 26 13 15, ldZ 19 49 18, rZ 8 (.alloc 49), asZ 7 17, stZ 49 8 19]
def press_CheckScript_r6 : List SO := [ldZ 20 49 8, mvZ 21 1, mvZ 22 2, rZ 23 (.call ⟨(.value (.func (32 : Nat))), #[(tZ 20), (tZ 21), (tZ 22)], #[49, 3, 3]⟩), asZ 9 23]
def press_CheckScript_r7 : List SO := [mvZ 24 9, bcZ 25 .neq 30 24 0 30]
def press_CheckScript_r8 : List SO := [mvZ 26 9, asZ 6 26]
def press_CheckScript_r9 : List SO := [mvZ 27 7, bcZ 28 .gtr 3 27 0 3, mvZ 29 28, gZ 29 true (faZ 30 49 8 0), gZ 29 true (ldZ 31 3 30), gZ 29 true (mvZ 32 0), gZ 29 true (mvZ 33 7), gZ 29 true (bcZ 34 .sub 3 33 1 3), gZ 29 true (iaZ 35 26 32 34), gZ 29 true (faZ 36 49 35 0), gZ 29 true (ldZ 37 3 36), gZ 29 true (boZ 38 .lss 3 31 37 3), rZ 39 (.pick (tZ 29) (tZ 38) (.const (.bool false)))]
def press_CheckScript_a9 : List (List Nat) := [[], [0], [1], [2], [3, 2], [2], [2], [6, 2], [5, 7, 2], [8, 2], [9, 2], [4, 10, 2], [2, 11]]
def press_CheckScript_r10 : List SO := [rZ 6 (.assign (ciZ 18))]
def press_CheckScript_r11 : List SO := [bcZ 40 .add 3 15 1 3, mvZ 15 40]
def press_CheckScript_r12 : List SO := [rZ 6 (.assign (ciZ 0))]
def press_CheckScript_c : SF := ⟨41, (.seq (.reg press_CheckScript_r0)
  (.seq (.seq (.reg press_CheckScript_r1)
  (.cond (tZ 12) (.seq (.reg press_CheckScript_r2)
  .ret) .skip))
  (.seq (.seq (.reg press_CheckScript_r3)
  (.block 0 (.loop (.seq (.reg press_CheckScript_r4)
  (.seq (.cond (tZ 16) .skip (.exit 0))
  (.seq (.block 1 (.seq (.reg press_CheckScript_r5)
  (.seq (.seq (.reg press_CheckScript_r6)
  (.seq (.reg press_CheckScript_r7)
  (.cond (tZ 25) (.seq (.reg press_CheckScript_r8)
  .ret) .skip)))
  (.seq (.regd press_CheckScript_r9 press_CheckScript_a9)
  (.cond (tZ 39) (.seq (.reg press_CheckScript_r10)
  .ret) .skip)))))
  (.reg press_CheckScript_r11)))))))
  (.seq (.reg press_CheckScript_r12)
  .ret)))), [.tmp 6]⟩
theorem press_CheckScript_s : slimF Try.prog 29 = some press_CheckScript_c := by kernel_rfl
abbrev press_CheckScript_f : Nat := 29
/-- printworks/press.Check -/
def press_Check_r0 : List SO := [rZ 1 (.box 25 (tZ 0)), rZ 2 (.assign (ciZ 0))]
def press_Check_r1 : List SO := [faZ 7 25 1 4, ldZ 8 22 7, rZ 9 (.call ⟨(.builtin .len), #[(tZ 8)], #[22]⟩), asZ 3 9]
def press_Check_r2 : List SO := [mvZ 11 3, bcZ 12 .gtr 3 11 8 3, asZ 10 12]
def press_Check_r3 : List SO := [rZ 2 (.assign (ciZ 2))]
def press_Check_r4 : List SO := [mvZ 14 3, bcZ 15 .eql 3 14 0 3, asZ 13 15]
def press_Check_r5 : List SO := [rZ 2 (.assign (ciZ 1))]
def press_Check_r6 : List SO := [faZ 16 25 1 0, ldZ 17 3 16, bcZ 18 .lss 3 17 1 3, mvZ 19 18, gZ 19 false (faZ 20 25 1 0), gZ 19 false (ldZ 21 3 20), gZ 19 false (bcZ 22 .gtr 3 21 16 3), rZ 23 (.pick (tZ 19) (.const (.bool true)) (tZ 22)), mvZ 24 23, gZ 24 false (faZ 25 25 1 1), gZ 24 false (ldZ 26 3 25), gZ 24 false (bcZ 27 .lss 3 26 0 3), rZ 28 (.pick (tZ 24) (.const (.bool true)) (tZ 27)), mvZ 29 28, gZ 29 false (faZ 30 25 1 1), gZ 29 false (ldZ 31 3 30), gZ 29 false (bcZ 32 .gtr 3 31 4000 3), rZ 33 (.pick (tZ 29) (.const (.bool true)) (tZ 32)), mvZ 34 33, gZ 34 false (faZ 35 25 1 2), gZ 34 false (ldZ 36 3 35), gZ 34 false (bcZ 37 .lss 3 36 0 3), rZ 38 (.pick (tZ 34) (.const (.bool true)) (tZ 37)), mvZ 39 38, gZ 39 false (faZ 40 25 1 2), gZ 39 false (ldZ 41 3 40), gZ 39 false (bcZ 42 .gtr 3 41 1000 3), rZ 43 (.pick (tZ 39) (.const (.bool true)) (tZ 42)), mvZ 44 43, gZ 44 false (faZ 45 25 1 3), gZ 44 false (ldZ 46 3 45), gZ 44 false (bcZ 47 .lss 3 46 0 3), rZ 48 (.pick (tZ 44) (.const (.bool true)) (tZ 47)), mvZ 49 48, gZ 49 false (faZ 50 25 1 3), gZ 49 false (ldZ 51 3 50), gZ 49 false (bcZ 52 .gtr 3 51 24000 3), rZ 53 (.pick (tZ 49) (.const (.bool true)) (tZ 52))]
def press_Check_r7 : List SO := [rZ 2 (.assign (ciZ 3))]
def press_Check_r8 : List SO := [faZ 54 25 1 4, ldZ 55 22 54, rZ 56 (.call ⟨(.builtin .len), #[(tZ 55)], #[22]⟩), rZ 57 (.move (ciZ 0))]
def press_Check_r9 : List SO := [boZ 58 .lss 3 57 56 3]
def press_Check_r10 : List SO := [iaZ 59 22 55 57, ldZ 60 3 59, asZ 5 60]
def press_Check_r11 : List SO := [mvZ 61 5, bcZ 62 .lss 3 61 0 3, mvZ 63 62, gZ 63 false (mvZ 64 5), gZ 63 false (bcZ 65 .gtr 3 64 24000 3), rZ 66 (.pick (tZ 63) (.const (.bool true)) (tZ 65))]
def press_Check_r12 : List SO := [rZ 2 (.assign (ciZ 3))]
def press_Check_r13 : List SO := [bcZ 67 .add 3 57 1 3, mvZ 57 67]
def press_Check_r14 : List SO := [faZ 68 25 1 5, ldZ 69 23 68, faZ 70 25 1 4, ldZ 71 22 70, rZ 72 (.call ⟨(.builtin .len), #[(tZ 71)], #[22]⟩), faZ 73 25 1 0, ldZ 74 3 73, rZ 75 (.call ⟨(.value (.func (41 : Nat))), #[(tZ 69), (tZ 72), (tZ 74), (ciZ 1000)], #[23, 3, 3, 3]⟩), asZ 6 75]
def press_Check_r15 : List SO := [mvZ 76 6, bcZ 77 .neq 30 76 0 30]
def press_Check_r16 : List SO := [mvZ 78 6, asZ 2 78]
def press_Check_r17 : List SO := [faZ 79 25 1 6, ldZ 80 23 79, faZ 81 25 1 4, ldZ 82 22 81, rZ 83 (.call ⟨(.builtin .len), #[(tZ 82)], #[22]⟩), faZ 84 25 1 0, ldZ 85 3 84, rZ 86 (.call ⟨(.value (.func (41 : Nat))), #[(tZ 80), (tZ 83), (tZ 85), (ciZ 8)], #[23, 3, 3, 3]⟩), asZ 2 86]
def press_Check_c : SF := ⟨87, (.seq (.reg press_Check_r0)
  (.seq (.seq (.reg press_Check_r1)
  (.block 0 (.seq (.reg press_Check_r2)
  (.cond (tZ 10) (.seq (.reg press_Check_r3)
  .ret) (.seq (.reg press_Check_r4)
  (.cond (tZ 13) (.seq (.reg press_Check_r5)
  .ret) .skip))))))
  (.seq (.seq (.reg press_Check_r6)
  (.cond (tZ 53) (.seq (.reg press_Check_r7)
  .ret) .skip))
  (.seq (.seq (.reg press_Check_r8)
  (.block 1 (.loop (.seq (.reg press_Check_r9)
  (.seq (.cond (tZ 58) .skip (.exit 1))
  (.seq (.block 2 (.seq (.reg press_Check_r10)
  (.seq (.reg press_Check_r11)
  (.cond (tZ 66) (.seq (.reg press_Check_r12)
  .ret) .skip))))
  (.reg press_Check_r13)))))))
  (.seq (.seq (.reg press_Check_r14)
  (.seq (.reg press_Check_r15)
  (.cond (tZ 77) (.seq (.reg press_Check_r16)
  .ret) .skip)))
  (.seq (.reg press_Check_r17)
  .ret)))))), [.tmp 2]⟩
theorem press_Check_s : slimF Try.prog 30 = some press_Check_c := by kernel_rfl
abbrev press_Check_f : Nat := 30
/-- printworks/press.copied -/
def press_copied_r0 : List SO := [rZ 2 (.assign (.const (.slice none 0 0)))]
def press_copied_r1 : List SO := [mvZ 5 0, rZ 6 (.call ⟨(.builtin .len), #[(tZ 5)], #[23]⟩), rZ 7 (.makeSlice 23 (tZ 6) (tZ 6)), asZ 3 7]
def press_copied_r2 : List SO := [mvZ 8 0, rZ 9 (.call ⟨(.builtin .len), #[(tZ 8)], #[23]⟩), rZ 10 (.move (ciZ 0))]
def press_copied_r3 : List SO := [boZ 11 .lss 3 10 9 3]
def press_copied_r4 : List SO := [mvZ 12 10, asZ 4 12]
def press_copied_r5 : List SO := [mvZ 13 3, mvZ 14 4, mvZ 15 0, mvZ 16 4, iaZ 17 23 15 16, ldZ 18 22 17, rZ 19 (.call ⟨(.builtin .append), #[(.const (.slice none 0 0)), (tZ 18)], #[22, 22]⟩), iaZ 20 23 13 14, stZ 22 20 19]
def press_copied_r6 : List SO := [bcZ 21 .add 3 10 1 3, mvZ 10 21]
def press_copied_r7 : List SO := [mvZ 22 3, asZ 2 22]
def press_copied_c : SF := ⟨23, (.seq (.reg press_copied_r0)
  (.seq (.reg press_copied_r1)
  (.seq (.seq (.reg press_copied_r2)
  (.block 0 (.loop (.seq (.reg press_copied_r3)
  (.seq (.cond (tZ 11) .skip (.exit 0))
  (.seq (.block 1 (.seq (.reg press_copied_r4)
  (.reg press_copied_r5)))
  (.reg press_copied_r6)))))))
  (.seq (.reg press_copied_r7)
  .ret)))), [.tmp 2]⟩
theorem press_copied_s : slimF Try.prog 31 = some press_copied_c := by kernel_rfl
abbrev press_copied_f : Nat := 31
/-- printworks/press.CheckEvent -/
def press_CheckEvent_r0 : List SO := [rZ 3 (.box 49 (tZ 0)), rZ 6 (.assign (ciZ 0))]
def press_CheckEvent_r1 : List SO := [faZ 10 49 3 0, ldZ 11 3 10, bcZ 12 .lss 3 11 1 3, mvZ 13 12, gZ 13 false (faZ 14 49 3 0), gZ 13 false (ldZ 15 3 14), gZ 13 false (bcZ 16 .gtr 3 15 4000 3), rZ 17 (.pick (tZ 13) (.const (.bool true)) (tZ 16)), mvZ 18 17, gZ 18 false (faZ 19 49 3 1), gZ 18 false (ldZ 20 3 19), gZ 18 false (bcZ 21 .lss 3 20 0 3), rZ 22 (.pick (tZ 18) (.const (.bool true)) (tZ 21)), mvZ 23 22, gZ 23 false (faZ 24 49 3 1), gZ 23 false (ldZ 25 3 24), gZ 23 false (bcZ 26 .gtr 3 25 6 3), rZ 27 (.pick (tZ 23) (.const (.bool true)) (tZ 26))]
def press_CheckEvent_r2 : List SO := [rZ 6 (.assign (ciZ 3))]
def press_CheckEvent_r3 : List SO := [faZ 28 49 3 0, ldZ 29 3 28, faZ 30 49 3 1, ldZ 31 3 30, rZ 32 (.build 49 #[(0, (tZ 29)), (1, (tZ 31))]), rZ 7 (.alloc 49), stZ 49 7 32]
def press_CheckEvent_r4 : List SO := [rZ 8 (.assign (ciZ 0)), rZ 9 (.assign (ciZ 0))]
def press_CheckEvent_r5 : List SO := [faZ 33 49 3 1, ldZ 34 3 33]
def press_CheckEvent_r6 : List SO := [bcZ 36 .eql 3 34 0 3, asZ 35 36]
def press_CheckEvent_r7 : List SO := [faZ 37 49 3 2, ldZ 38 3 37, faZ 39 49 3 4, ldZ 40 3 39, faZ 41 49 3 5, ldZ 42 3 41, faZ 43 49 7 2, stZ 3 43 38, faZ 44 49 7 4, stZ 3 44 40, faZ 45 49 7 5, stZ 3 45 42, rZ 8 (.assign (.const (.int .i64 (-16)))), rZ 9 (.assign (ciZ 16))]
def press_CheckEvent_a7 : List (List Nat) := [[], [0], [], [2], [], [4], [0, 1], [6, 1, 0, 1], [0, 1, 2, 3, 6, 7], [8, 3, 7, 0, 1, 2, 3, 6, 7], [0, 1, 2, 3, 4, 5, 6, 7, 8, 9], [10, 5, 9, 0, 1, 2, 3, 4, 5, 6, 7, 8, 9], [11, 0, 1, 2, 3, 4, 5, 6, 7, 8, 9, 10, 11], [12, 0, 1, 2, 3, 4, 5, 6, 7, 8, 9, 10, 11, 12]]
def press_CheckEvent_r8 : List SO := [bcZ 47 .eql 3 34 1 3, asZ 46 47]
def press_CheckEvent_r9 : List SO := [faZ 48 49 3 2, ldZ 49 3 48, faZ 50 49 3 3, ldZ 51 3 50, faZ 52 49 3 4, ldZ 53 3 52, faZ 54 49 7 2, stZ 3 54 49, faZ 55 49 7 3, stZ 3 55 51, faZ 56 49 7 4, stZ 3 56 53, rZ 9 (.assign (ciZ 1000))]
def press_CheckEvent_a9 : List (List Nat) := [[], [0], [], [2], [], [4], [0, 1], [6, 1, 0, 1], [0, 1, 2, 3, 6, 7], [8, 3, 7, 0, 1, 2, 3, 6, 7], [0, 1, 2, 3, 4, 5, 6, 7, 8, 9], [10, 5, 9, 0, 1, 2, 3, 4, 5, 6, 7, 8, 9], [11, 0, 1, 2, 3, 4, 5, 6, 7, 8, 9, 10, 11]]
def press_CheckEvent_r10 : List SO := [bcZ 58 .eql 3 34 2 3, asZ 57 58]
def press_CheckEvent_r11 : List SO := [faZ 59 49 3 2, ldZ 60 3 59, faZ 61 49 3 4, ldZ 62 3 61, faZ 63 49 7 2, stZ 3 63 60, faZ 64 49 7 4, stZ 3 64 62, rZ 8 (.assign (ciZ 4)), rZ 9 (.assign (ciZ 12))]
def press_CheckEvent_a11 : List (List Nat) := [[], [0], [], [2], [0, 1], [4, 1, 0, 1], [0, 1, 2, 3, 4, 5], [6, 3, 5, 0, 1, 2, 3, 4, 5], [7, 0, 1, 2, 3, 4, 5, 6, 7], [8, 0, 1, 2, 3, 4, 5, 6, 7, 8]]
def press_CheckEvent_r12 : List SO := [bcZ 66 .eql 3 34 3 3, asZ 65 66]
def press_CheckEvent_r13 : List SO := [faZ 67 49 3 4, ldZ 68 3 67, faZ 69 49 7 4, stZ 3 69 68, rZ 8 (.assign (ciZ 1)), rZ 9 (.assign (ciZ 20))]
def press_CheckEvent_r14 : List SO := [bcZ 71 .eql 3 34 4 3, asZ 70 71]
def press_CheckEvent_r15 : List SO := [faZ 72 49 3 2, ldZ 73 3 72, faZ 74 49 3 4, ldZ 75 3 74, faZ 76 49 3 5, ldZ 77 3 76, faZ 78 49 7 2, stZ 3 78 73, faZ 79 49 7 4, stZ 3 79 75, faZ 80 49 7 5, stZ 3 80 77, rZ 8 (.assign (.const (.int .i64 (-1000)))), rZ 9 (.assign (ciZ 1000))]
def press_CheckEvent_a15 : List (List Nat) := [[], [0], [], [2], [], [4], [0, 1], [6, 1, 0, 1], [0, 1, 2, 3, 6, 7], [8, 3, 7, 0, 1, 2, 3, 6, 7], [0, 1, 2, 3, 4, 5, 6, 7, 8, 9], [10, 5, 9, 0, 1, 2, 3, 4, 5, 6, 7, 8, 9], [11, 0, 1, 2, 3, 4, 5, 6, 7, 8, 9, 10, 11], [12, 0, 1, 2, 3, 4, 5, 6, 7, 8, 9, 10, 11, 12]]
def press_CheckEvent_r16 : List SO := [bcZ 82 .eql 3 34 5 3, asZ 81 82]
def press_CheckEvent_r17 : List SO := [faZ 83 49 3 2, ldZ 84 3 83, faZ 85 49 7 2, stZ 3 85 84]
def press_CheckEvent_r18 : List SO := [ldZ 86 49 3, ldZ 87 49 7, boZ 88 .neq 49 86 87 49]
def press_CheckEvent_r19 : List SO := [rZ 6 (.assign (ciZ 4))]
def press_CheckEvent_r20 : List SO := [faZ 89 49 3 1, ldZ 90 3 89, bcZ 91 .neq 3 90 3 3, mvZ 92 91, gZ 92 true (faZ 93 49 3 1), gZ 92 true (ldZ 94 3 93), gZ 92 true (bcZ 95 .neq 3 94 6 3), rZ 96 (.pick (tZ 92) (tZ 95) (.const (.bool false))), mvZ 97 96, gZ 97 true (faZ 98 49 3 2), gZ 97 true (ldZ 99 3 98), gZ 97 true (bcZ 100 .lss 3 99 0 3), gZ 97 true (mvZ 101 100), gZ 101 false (faZ 102 49 3 2), gZ 101 false (ldZ 103 3 102), gZ 101 false (mvZ 104 1), gZ 101 false (boZ 105 .geq 3 103 104 3), gZ 97 true (rZ 106 (.pick (tZ 101) (.const (.bool true)) (tZ 105))), rZ 107 (.pick (tZ 97) (tZ 106) (.const (.bool false))), mvZ 108 107, gZ 108 false (faZ 109 49 3 1), gZ 108 false (ldZ 110 3 109), gZ 108 false (bcZ 111 .eql 3 110 1 3), gZ 108 false (mvZ 112 111), gZ 112 true (faZ 113 49 3 3), gZ 112 true (ldZ 114 3 113), gZ 112 true (bcZ 115 .lss 3 114 0 3), gZ 112 true (mvZ 116 115), gZ 116 false (faZ 117 49 3 3), gZ 116 false (ldZ 118 3 117), gZ 116 false (mvZ 119 2), gZ 116 false (boZ 120 .geq 3 118 119 3), gZ 112 true (rZ 121 (.pick (tZ 116) (.const (.bool true)) (tZ 120))), gZ 108 false (rZ 122 (.pick (tZ 112) (tZ 121) (.const (.bool false)))), rZ 123 (.pick (tZ 108) (.const (.bool true)) (tZ 122)), mvZ 124 123, gZ 124 false (faZ 125 49 3 4), gZ 124 false (ldZ 126 3 125), gZ 124 false (mvZ 127 8), gZ 124 false (boZ 128 .lss 3 126 127 3), rZ 129 (.pick (tZ 124) (.const (.bool true)) (tZ 128)), mvZ 130 129, gZ 130 false (faZ 131 49 3 4), gZ 130 false (ldZ 132 3 131), gZ 130 false (mvZ 133 9), gZ 130 false (boZ 134 .gtr 3 132 133 3), rZ 135 (.pick (tZ 130) (.const (.bool true)) (tZ 134))]
def press_CheckEvent_r21 : List SO := [rZ 6 (.assign (ciZ 3))]
def press_CheckEvent_r22 : List SO := [faZ 136 49 3 1, ldZ 137 3 136, bcZ 138 .eql 3 137 0 3, mvZ 139 138, gZ 139 false (faZ 140 49 3 1), gZ 139 false (ldZ 141 3 140), gZ 139 false (bcZ 142 .eql 3 141 4 3), rZ 143 (.pick (tZ 139) (.const (.bool true)) (tZ 142)), mvZ 144 143, gZ 144 true (faZ 145 49 3 5), gZ 144 true (ldZ 146 3 145), gZ 144 true (mvZ 147 8), gZ 144 true (boZ 148 .lss 3 146 147 3), gZ 144 true (mvZ 149 148), gZ 149 false (faZ 150 49 3 5), gZ 149 false (ldZ 151 3 150), gZ 149 false (mvZ 152 9), gZ 149 false (boZ 153 .gtr 3 151 152 3), gZ 144 true (rZ 154 (.pick (tZ 149) (.const (.bool true)) (tZ 153))), rZ 155 (.pick (tZ 144) (tZ 154) (.const (.bool false)))]
def press_CheckEvent_r23 : List SO := [rZ 6 (.assign (ciZ 3))]
def press_CheckEvent_r24 : List SO := [rZ 6 (.assign (ciZ 0))]
def press_CheckEvent_c : SF := ⟨156, (.seq (.reg press_CheckEvent_r0)
  (.seq (.seq (.reg press_CheckEvent_r1)
  (.cond (tZ 27) (.seq (.reg press_CheckEvent_r2)
  .ret) .skip))
  (.seq (.reg press_CheckEvent_r3)
  (.seq (.reg press_CheckEvent_r4)
  (.seq (.seq (.reg press_CheckEvent_r5)
  (.block 0 (.seq (.reg press_CheckEvent_r6)
  (.cond (tZ 35) (.regd press_CheckEvent_r7 press_CheckEvent_a7) (.seq (.reg press_CheckEvent_r8)
  (.cond (tZ 46) (.regd press_CheckEvent_r9 press_CheckEvent_a9) (.seq (.reg press_CheckEvent_r10)
  (.cond (tZ 57) (.regd press_CheckEvent_r11 press_CheckEvent_a11) (.seq (.reg press_CheckEvent_r12)
  (.cond (tZ 65) (.reg press_CheckEvent_r13) (.seq (.reg press_CheckEvent_r14)
  (.cond (tZ 70) (.regd press_CheckEvent_r15 press_CheckEvent_a15) (.seq (.reg press_CheckEvent_r16)
  (.cond (tZ 81) (.reg press_CheckEvent_r17) .skip))))))))))))))
  (.seq (.seq (.reg press_CheckEvent_r18)
  (.cond (tZ 88) (.seq (.reg press_CheckEvent_r19)
  .ret) .skip))
  (.seq (.seq (.reg press_CheckEvent_r20)
  (.cond (tZ 135) (.seq (.reg press_CheckEvent_r21)
  .ret) .skip))
  (.seq (.seq (.reg press_CheckEvent_r22)
  (.cond (tZ 155) (.seq (.reg press_CheckEvent_r23)
  .ret) .skip))
  (.seq (.reg press_CheckEvent_r24)
  .ret))))))))), [.tmp 6]⟩
theorem press_CheckEvent_s : slimF Try.prog 32 = some press_CheckEvent_c := by kernel_rfl
abbrev press_CheckEvent_f : Nat := 32
/-- (*printworks/press.unit).move -/
def __press_unit__move_r0 : List SO := [rZ 3 (.box 40 (tZ 1))]
def __press_unit__move_r1 : List SO := [mvZ 4 0, mvZ 5 0, rZ 6 (.nilCheck (tZ 5)), faZ 7 83 6 0, faZ 8 40 7 0, ldZ 9 3 8, faZ 10 40 3 0, ldZ 11 3 10, boZ 12 .add 3 9 11 3, rZ 13 (.call ⟨(.value (.func (42 : Nat))), #[(tZ 12)], #[3]⟩), mvZ 14 0, rZ 15 (.nilCheck (tZ 14)), faZ 16 83 15 0, faZ 17 40 16 1, ldZ 18 3 17, faZ 19 40 3 1, ldZ 20 3 19, boZ 21 .add 3 18 20 3, rZ 22 (.call ⟨(.value (.func (42 : Nat))), #[(tZ 21)], #[3]⟩), rZ 23 (.build 40 #[(0, (tZ 13)), (1, (tZ 22))]), rZ 24 (.nilCheck (tZ 4)), faZ 25 83 24 0, stZ 40 25 23]
def __press_unit__move_a1 : List (List Nat) := [[], [], [1], [2], [3], [4], [], [6], [5, 7], [8], [], [10], [11], [12], [13], [], [15], [14, 16], [17, 9], [9, 18], [0, 0, 1, 2, 3, 4, 5, 6, 7, 8, 9, 10, 11, 12, 13, 14, 15, 16, 17, 18, 19], [20, 0, 1, 2, 3, 4, 5, 6, 7, 8, 9, 10, 11, 12, 13, 14, 15, 16, 17, 18, 19], [21, 19, 18, 0, 1, 2, 3, 4, 5, 6, 7, 8, 9, 10, 11, 12, 13, 14, 15, 16, 17, 18, 19]]
def __press_unit__move_c : SF := ⟨26, (.seq (.reg __press_unit__move_r0)
  (.regd __press_unit__move_r1 __press_unit__move_a1)), []⟩
theorem __press_unit__move_s : slimF Try.prog 33 = some __press_unit__move_c := by kernel_rfl
abbrev __press_unit__move_f : Nat := 33
/-- (*printworks/press.unit).ink -/
def __press_unit__ink_r0 : List SO := [mvZ 7 0, rZ 8 (.nilCheck (tZ 7)), faZ 9 83 8 4, ldZ 10 22 9, mvZ 11 1, iaZ 12 22 10 11, ldZ 13 3 12, mvZ 14 2, rZ 15 (.binOp .add 3 (ciZ 8) (tZ 14) 3), boZ 16 .mul 3 13 15 3, bcZ 17 .quo 3 16 8 3, asZ 6 17]
def __press_unit__ink_r1 : List SO := [mvZ 18 0, rZ 19 (.nilCheck (tZ 18)), faZ 20 83 19 4, ldZ 21 22 20, mvZ 22 1, iaZ 23 22 21 22, ldZ 24 3 23, mvZ 25 0, rZ 26 (.nilCheck (tZ 25)), faZ 27 83 26 3, ldZ 28 22 27, mvZ 29 1, iaZ 30 22 28 29, ldZ 31 3 30, rZ 32 (.binOp .mul 3 (ciZ 2) (tZ 31) 3), mvZ 33 0, rZ 34 (.nilCheck (tZ 33)), faZ 35 83 34 2, ldZ 36 3 35, boZ 37 .mul 3 32 36 3, mvZ 38 6, boZ 39 .sub 3 37 38 3, rZ 40 (.binOp .shr 3 (tZ 39) (.const (.int .u64 3)) 98), boZ 41 .add 3 24 40 3, iaZ 42 22 21 22, stZ 3 42 41]
def __press_unit__ink_a1 : List (List Nat) := [[], [0], [1], [2], [], [3, 4], [5], [], [7], [8], [9], [], [10, 11], [12], [13], [], [15], [16], [17], [14, 18], [], [19, 20], [21], [6, 22], [3, 4, 0, 1, 2, 3, 4, 5, 6, 7, 8, 9, 10, 11, 12, 13, 14, 15, 16, 17, 18, 19, 20, 21, 22, 23], [24, 23, 0, 1, 2, 3, 4, 5, 6, 7, 8, 9, 10, 11, 12, 13, 14, 15, 16, 17, 18, 19, 20, 21, 22, 23]]
def __press_unit__ink_c : SF := ⟨43, (.seq (.reg __press_unit__ink_r0)
  (.regd __press_unit__ink_r1 __press_unit__ink_a1)), []⟩
theorem __press_unit__ink_s : slimF Try.prog 34 = some __press_unit__ink_c := by kernel_rfl
abbrev __press_unit__ink_f : Nat := 34
/-- (*printworks/press.Press).good -/
def __press_Press__good_r0 : List SO := [rZ 2 (.assign (.const (.bool false)))]
def __press_Press__good_r1 : List SO := [mvZ 8 0, rZ 9 (.nilCheck (tZ 8)), faZ 10 80 9 0, faZ 11 77 10 1, ldZ 12 3 11, mvZ 13 0, rZ 14 (.nilCheck (tZ 13)), faZ 15 80 14 1, faZ 16 25 15 1, ldZ 17 3 16, boZ 18 .leq 3 12 17 3]
def __press_Press__good_a1 : List (List Nat) := [[], [0], [1], [2], [3], [], [5], [6], [7], [8], [4, 9]]
def __press_Press__good_r2 : List SO := [rZ 2 (.assign (.const (.bool false)))]
def __press_Press__good_r3 : List SO := [mvZ 19 0, rZ 20 (.nilCheck (tZ 19)), faZ 21 80 20 2, ldZ 22 78 21, rZ 23 (.call ⟨(.builtin .len), #[(tZ 22)], #[78]⟩), rZ 24 (.move (ciZ 0))]
def __press_Press__good_r4 : List SO := [boZ 25 .lss 3 24 23 3]
def __press_Press__good_r5 : List SO := [mvZ 26 24, iaZ 27 78 22 24, ldZ 28 83 27, rZ 4 (.alloc 83), asZ 3 26, stZ 83 4 28]
def __press_Press__good_r6 : List SO := [faZ 29 83 4 0, faZ 30 40 29 0, ldZ 31 3 30, faZ 32 83 4 0, faZ 33 40 32 0, ldZ 34 3 33, rZ 35 (.unOp .neg 3 (tZ 34)), faZ 36 83 4 0, faZ 37 40 36 1, ldZ 38 3 37, faZ 39 83 4 0, faZ 40 40 39 1, ldZ 41 3 40, rZ 42 (.unOp .neg 3 (tZ 41)), rZ 43 (.call ⟨(.builtin .max), #[(tZ 31), (tZ 35), (tZ 38), (tZ 42)], #[3, 3, 3, 3]⟩), mvZ 44 0, rZ 45 (.nilCheck (tZ 44)), faZ 46 80 45 1, faZ 47 25 46 2, ldZ 48 3 47, boZ 49 .gtr 3 43 48 3]
def __press_Press__good_a6 : List (List Nat) := [[], [0], [1], [], [3], [4], [5], [], [7], [8], [], [10], [11], [12], [2, 6, 9, 13], [], [15], [16], [17], [18], [14, 19]]
def __press_Press__good_r7 : List SO := [rZ 2 (.assign (.const (.bool false)))]
def __press_Press__good_r8 : List SO := [faZ 50 83 4 4, ldZ 51 22 50, rZ 52 (.call ⟨(.builtin .len), #[(tZ 51)], #[22]⟩), rZ 53 (.move (ciZ 0))]
def __press_Press__good_r9 : List SO := [boZ 54 .lss 3 53 52 3]
def __press_Press__good_r10 : List SO := [iaZ 55 22 51 53, ldZ 56 3 55, asZ 6 56]
def __press_Press__good_r11 : List SO := [mvZ 57 6, mvZ 58 0, rZ 59 (.nilCheck (tZ 58)), faZ 60 80 59 1, faZ 61 25 60 4, ldZ 62 22 61, mvZ 63 3, iaZ 64 22 62 63, ldZ 65 3 64, boZ 66 .sub 3 57 65 3, asZ 7 66]
def __press_Press__good_r12 : List SO := [mvZ 67 7, mvZ 68 7, rZ 69 (.unOp .neg 3 (tZ 68)), rZ 70 (.call ⟨(.builtin .max), #[(tZ 67), (tZ 69)], #[3, 3]⟩), mvZ 71 0, rZ 72 (.nilCheck (tZ 71)), faZ 73 80 72 1, faZ 74 25 73 3, ldZ 75 3 74, boZ 76 .gtr 3 70 75 3]
def __press_Press__good_r13 : List SO := [rZ 2 (.assign (.const (.bool false)))]
def __press_Press__good_r14 : List SO := [bcZ 77 .add 3 53 1 3, mvZ 53 77]
def __press_Press__good_r15 : List SO := [bcZ 78 .add 3 24 1 3, mvZ 24 78]
def __press_Press__good_r16 : List SO := [rZ 2 (.assign (.const (.bool true)))]
def __press_Press__good_c : SF := ⟨79, (.seq (.reg __press_Press__good_r0)
  (.seq (.seq (.regd __press_Press__good_r1 __press_Press__good_a1)
  (.cond (tZ 18) (.seq (.reg __press_Press__good_r2)
  .ret) .skip))
  (.seq (.seq (.reg __press_Press__good_r3)
  (.block 0 (.loop (.seq (.reg __press_Press__good_r4)
  (.seq (.cond (tZ 25) .skip (.exit 0))
  (.seq (.block 1 (.seq (.reg __press_Press__good_r5)
  (.seq (.seq (.regd __press_Press__good_r6 __press_Press__good_a6)
  (.cond (tZ 49) (.seq (.reg __press_Press__good_r7)
  .ret) .skip))
  (.seq (.reg __press_Press__good_r8)
  (.block 2 (.loop (.seq (.reg __press_Press__good_r9)
  (.seq (.cond (tZ 54) .skip (.exit 2))
  (.seq (.block 3 (.seq (.reg __press_Press__good_r10)
  (.seq (.reg __press_Press__good_r11)
  (.seq (.reg __press_Press__good_r12)
  (.cond (tZ 76) (.seq (.reg __press_Press__good_r13)
  .ret) .skip)))))
  (.reg __press_Press__good_r14))))))))))
  (.reg __press_Press__good_r15)))))))
  (.seq (.reg __press_Press__good_r16)
  .ret)))), [.tmp 2]⟩
theorem __press_Press__good_s : slimF Try.prog 35 = some __press_Press__good_c := by kernel_rfl
abbrev __press_Press__good_f : Nat := 35
/-- printworks/press.table -/
def press_table_r0 : List SO := [rZ 8 (.assign (ciZ 0))]
def press_table_r1 : List SO := [mvZ 13 0, rZ 14 (.call ⟨(.builtin .len), #[(tZ 13)], #[23]⟩), mvZ 15 1, boZ 16 .neq 3 14 15 3]
def press_table_r2 : List SO := [rZ 8 (.assign (ciZ 4))]
def press_table_r3 : List SO := [mvZ 17 0, rZ 18 (.call ⟨(.builtin .len), #[(tZ 17)], #[23]⟩), rZ 19 (.move (ciZ 0))]
def press_table_r4 : List SO := [boZ 20 .lss 3 19 18 3]
def press_table_r5 : List SO := [iaZ 21 23 17 19, ldZ 22 22 21, asZ 10 22]
def press_table_r6 : List SO := [mvZ 23 10, rZ 24 (.call ⟨(.builtin .len), #[(tZ 23)], #[22]⟩), mvZ 25 2, boZ 26 .neq 3 24 25 3]
def press_table_r7 : List SO := [rZ 8 (.assign (ciZ 4))]
def press_table_r8 : List SO := [mvZ 27 10, rZ 28 (.call ⟨(.builtin .len), #[(tZ 27)], #[22]⟩), rZ 29 (.move (ciZ 0))]
def press_table_r9 : List SO := [boZ 30 .lss 3 29 28 3]
def press_table_r10 : List SO := [iaZ 31 22 27 29, ldZ 32 3 31, asZ 12 32]
def press_table_r11 : List SO := [mvZ 33 12, bcZ 34 .lss 3 33 0 3, mvZ 35 34, gZ 35 false (mvZ 36 12), gZ 35 false (mvZ 37 3), gZ 35 false (boZ 38 .gtr 3 36 37 3), rZ 39 (.pick (tZ 35) (.const (.bool true)) (tZ 38))]
def press_table_r12 : List SO := [rZ 8 (.assign (ciZ 3))]
def press_table_r13 : List SO := [bcZ 40 .add 3 29 1 3, mvZ 29 40]
def press_table_r14 : List SO := [bcZ 41 .add 3 19 1 3, mvZ 19 41]
def press_table_r15 : List SO := [rZ 8 (.assign (ciZ 0))]
def press_table_c : SF := ⟨42, (.seq (.reg press_table_r0)
  (.seq (.seq (.reg press_table_r1)
  (.cond (tZ 16) (.seq (.reg press_table_r2)
  .ret) .skip))
  (.seq (.seq (.reg press_table_r3)
  (.block 0 (.loop (.seq (.reg press_table_r4)
  (.seq (.cond (tZ 20) .skip (.exit 0))
  (.seq (.block 1 (.seq (.reg press_table_r5)
  (.seq (.seq (.reg press_table_r6)
  (.cond (tZ 26) (.seq (.reg press_table_r7)
  .ret) .skip))
  (.seq (.reg press_table_r8)
  (.block 2 (.loop (.seq (.reg press_table_r9)
  (.seq (.cond (tZ 30) .skip (.exit 2))
  (.seq (.block 3 (.seq (.reg press_table_r10)
  (.seq (.reg press_table_r11)
  (.cond (tZ 39) (.seq (.reg press_table_r12)
  .ret) .skip))))
  (.reg press_table_r13))))))))))
  (.reg press_table_r14)))))))
  (.seq (.reg press_table_r15)
  .ret)))), [.tmp 8]⟩
theorem press_table_s : slimF Try.prog 41 = some press_table_c := by kernel_rfl
abbrev press_table_f : Nat := 41
/-- printworks/press.cut -/
def press_cut_r0 : List SO := [rZ 2 (.assign (ciZ 0))]
def press_cut_r1 : List SO := [mvZ 3 0, rZ 4 (.call ⟨(.builtin .min), #[(ciZ 1000), (tZ 3)], #[3, 3]⟩), rZ 5 (.call ⟨(.builtin .max), #[(.const (.int .i64 (-1000))), (tZ 4)], #[3, 3]⟩), asZ 2 5]
def press_cut_c : SF := ⟨6, (.seq (.reg press_cut_r0)
  (.seq (.reg press_cut_r1)
  .ret)), [.tmp 2]⟩
theorem press_cut_s : slimF Try.prog 42 = some press_cut_c := by kernel_rfl
abbrev press_cut_f : Nat := 42

end Go.Proofs.Ytbaepacihkgalaa
namespace Go.Proofs.Ytbaepacihkgalaa
open Go Go.Lite
set_option linter.unusedVariables false

/-- printworks/curve.Nearest -/
def curve_Nearest_r0 : List SO := [rZ 4 (.assign (ciZ 0))]
def curve_Nearest_r1 : List SO := [mvZ 6 0, rZ 7 (.binOp .mul 3 (ciZ 2) (tZ 6) 3), mvZ 8 1, boZ 9 .add 3 7 8 3, mvZ 10 1, rZ 11 (.binOp .mul 3 (ciZ 2) (tZ 10) 3), asZ 0 9, asZ 1 11]
def curve_Nearest_r2 : List SO := [mvZ 12 0, mvZ 13 1, boZ 14 .quo 3 12 13 3, asZ 5 14]
def curve_Nearest_r3 : List SO := [mvZ 15 0, mvZ 16 1, boZ 17 .rem 3 15 16 3, bcZ 18 .lss 3 17 0 3]
def curve_Nearest_r4 : List SO := [mvZ 19 5, bcZ 20 .sub 3 19 1 3, asZ 5 20]
def curve_Nearest_r5 : List SO := [mvZ 21 5, asZ 4 21]
def curve_Nearest_c : SF := ⟨22, (.seq (.reg curve_Nearest_r0)
  (.seq (.reg curve_Nearest_r1)
  (.seq (.reg curve_Nearest_r2)
  (.seq (.seq (.reg curve_Nearest_r3)
  (.cond (tZ 18) (.reg curve_Nearest_r4) .skip))
  (.seq (.reg curve_Nearest_r5)
  .ret))))), [.tmp 4]⟩
theorem curve_Nearest_s : slimF Try.prog 38 = some curve_Nearest_c := by kernel_rfl
abbrev curve_Nearest_f : Nat := 38

end Go.Proofs.Ytbaepacihkgalaa
namespace Go.Proofs.Ytbaepacihkgalaa
open Go Go.Lite
set_option linter.unusedVariables false

/-- printworks/control.Loop -/
def control_Loop_r0 : List SO := [rZ 4 (.box 25 (tZ 0)), rZ 5 (.box 54 (tZ 1)), rZ 8 (.assign (.const (.slice none 0 0))), rZ 9 (.assign (ciZ 0))]
def control_Loop_r1 : List SO := [ldZ 24 25 4, rZ 25 (.call ⟨(.value (.func (16 : Nat))), #[(tZ 24)], #[25]⟩), mvZ 23 25, exZ 26 23 0, exZ 27 23 1, asZ 10 26, asZ 11 27]
def control_Loop_r2 : List SO := [mvZ 28 11, bcZ 29 .neq 30 28 0 30]
def control_Loop_r3 : List SO := [mvZ 30 11, rZ 8 (.assign (.const (.slice none 0 0))), asZ 9 30]
def control_Loop_r4 : List SO := [ldZ 32 25 4, ldZ 33 54 5, rZ 34 (.call ⟨(.value (.func (25 : Nat))), #[(tZ 32), (tZ 33)], #[25, 54]⟩), mvZ 31 34, exZ 35 31 0, exZ 36 31 1, asZ 12 35, asZ 11 36]
def control_Loop_r5 : List SO := [mvZ 37 11, bcZ 38 .neq 30 37 0 30]
def control_Loop_r6 : List SO := [mvZ 39 11, rZ 8 (.assign (.const (.slice none 0 0))), asZ 9 39]
def control_Loop_r7 : List SO := [mvZ 40 2, faZ 41 25 4 4, ldZ 42 22 41, rZ 43 (.call ⟨(.builtin .len), #[(tZ 42)], #[22]⟩), faZ 44 25 4 0, ldZ 45 3 44, rZ 46 (.call ⟨(.value (.func (29 : Nat))), #[(tZ 40), (tZ 43), (tZ 45)], #[26, 3, 3]⟩), asZ 13 46]
def control_Loop_r8 : List SO := [mvZ 47 13, bcZ 48 .neq 30 47 0 30]
def control_Loop_r9 : List SO := [mvZ 49 13, rZ 8 (.assign (.const (.slice none 0 0))), asZ 9 49]
def control_Loop_r10 : List SO := [mvZ 50 3, bcZ 51 .lss 3 50 0 3, mvZ 52 51, gZ 52 false (mvZ 53 3), gZ 52 false (bcZ 54 .gtr 3 53 4000 3), rZ 55 (.pick (tZ 52) (.const (.bool true)) (tZ 54))]
def control_Loop_r11 : List SO := [rZ 8 (.assign (.const (.slice none 0 0))), rZ 9 (.assign (ciZ 3))]
def control_Loop_r12 : List SO := [mvZ 56 10, rZ 57 (.makeFunc (.func (18 : Nat)) #[(tZ 56)] #[]), asZ 14 57]
def control_Loop_r13 : List SO := [rZ 15 (.assign (.const (.slice none 0 0)))]
def control_Loop_r14 : List SO := [rZ 16 (.assign (.const (.slice none 0 0)))]
def control_Loop_r15 : List SO := [rZ 17 (.assign (ciZ 1))]
def control_Loop_r16 : List SO := [mvZ 58 17, mvZ 59 3, boZ 60 .leq 3 58 59 3]
def control_Loop_r17 : List SO := [mvZ 63 2, rZ 64 (.call ⟨(.builtin .len), #[(tZ 63)], #[26]⟩), bcZ 65 .gtr 3 64 0 3, mvZ 66 65, gZ 66 true (mvZ 67 2), gZ 66 true (rZ 68 (.indexAddr 26 (tZ 67) (ciZ 0))), gZ 66 true (faZ 69 49 68 0), gZ 66 true (ldZ 70 3 69), gZ 66 true (mvZ 71 17), gZ 66 true (boZ 72 .eql 3 70 71 3), rZ 73 (.pick (tZ 66) (tZ 72) (.const (.bool false)))]
def control_Loop_r18 : List SO := [mvZ 74 16, mvZ 75 2, rZ 76 (.indexAddr 26 (tZ 75) (ciZ 0)), ldZ 77 49 76, rZ 78 (.buildSlice 26 1 #[(0, (tZ 77))]), rZ 79 (.call ⟨(.builtin .append), #[(tZ 74), (tZ 78)], #[26, 26]⟩), asZ 16 79]
def control_Loop_r19 : List SO := [mvZ 80 2, rZ 81 (.slice 26 (tZ 80) (some (ciZ 1)) none none), asZ 2 81]
def control_Loop_r20 : List SO := [mvZ 82 16, rZ 83 (.call ⟨(.builtin .len), #[(tZ 82)], #[26]⟩), rZ 84 (.move (ciZ 0))]
def control_Loop_r21 : List SO := [boZ 85 .lss 3 84 83 3]
def control_Loop_r22 : List SO := [iaZ 86 26 82 84, ldZ 87 49 86, rZ 19 (.alloc 49), stZ 49 19 87]
def control_Loop_r23 : List SO := [mvZ 88 14, ldZ 89 49 19, rZ 90 (.call ⟨(.value (tZ 88)), #[(tZ 89)], #[49]⟩), asZ 20 90]
def control_Loop_r24 : List SO := [mvZ 91 20, bcZ 92 .neq 30 91 0 30]
def control_Loop_r25 : List SO := [mvZ 93 20, rZ 8 (.assign (.const (.slice none 0 0))), asZ 9 93]
def control_Loop_r26 : List SO := [bcZ 94 .add 3 84 1 3, mvZ 84 94]
def control_Loop_r27 : List SO := [mvZ 96 10, rZ 97 (.call ⟨(.value (.func (19 : Nat))), #[(tZ 96)], #[43]⟩), mvZ 95 97, exZ 98 95 0, exZ 99 95 1, rZ 21 (.alloc 37), stZ 37 21 98, asZ 22 99]
def control_Loop_r28 : List SO := [mvZ 100 22, bcZ 101 .neq 30 100 0 30]
def control_Loop_r29 : List SO := [mvZ 102 22, rZ 8 (.assign (.const (.slice none 0 0))), asZ 9 102]
def control_Loop_r30 : List SO := [mvZ 103 15, ldZ 104 37 21, rZ 105 (.buildSlice 29 1 #[(0, (tZ 104))]), rZ 106 (.call ⟨(.builtin .append), #[(tZ 103), (tZ 105)], #[29, 29]⟩), asZ 15 106]
def control_Loop_r31 : List SO := [mvZ 108 12, ldZ 109 37 21, rZ 110 (.call ⟨(.value (.func (26 : Nat))), #[(tZ 108), (tZ 109)], #[61, 37]⟩), mvZ 107 110, exZ 111 107 0, exZ 112 107 1, asZ 16 111, asZ 22 112]
def control_Loop_r32 : List SO := [mvZ 113 22, bcZ 114 .neq 30 113 0 30]
def control_Loop_r33 : List SO := [mvZ 115 22, rZ 8 (.assign (.const (.slice none 0 0))), asZ 9 115]
def control_Loop_r34 : List SO := [mvZ 61 17, bcZ 62 .add 3 61 1 3, asZ 17 62]
def control_Loop_r35 : List SO := [mvZ 116 15, asZ 8 116, rZ 9 (.assign (ciZ 0))]
def control_Loop_c : SF := ⟨117, (.seq (.reg control_Loop_r0)
  (.seq (.reg control_Loop_r1)
  (.seq (.seq (.reg control_Loop_r2)
  (.cond (tZ 29) (.seq (.reg control_Loop_r3)
  .ret) .skip))
  (.seq (.reg control_Loop_r4)
  (.seq (.seq (.reg control_Loop_r5)
  (.cond (tZ 38) (.seq (.reg control_Loop_r6)
  .ret) .skip))
  (.seq (.seq (.reg control_Loop_r7)
  (.seq (.reg control_Loop_r8)
  (.cond (tZ 48) (.seq (.reg control_Loop_r9)
  .ret) .skip)))
  (.seq (.seq (.reg control_Loop_r10)
  (.cond (tZ 55) (.seq (.reg control_Loop_r11)
  .ret) .skip))
  (.seq (.reg control_Loop_r12)
  (.seq (.reg control_Loop_r13)
  (.seq (.reg control_Loop_r14)
  (.seq (.seq (.reg control_Loop_r15)
  (.block 0 (.loop (.seq (.seq (.reg control_Loop_r16)
  (.cond (tZ 60) .skip (.exit 0)))
  (.seq (.block 1 (.seq (.block 2 (.loop (.seq (.seq (.reg control_Loop_r17)
  (.cond (tZ 73) .skip (.exit 2)))
  (.block 3 (.seq (.reg control_Loop_r18)
  (.reg control_Loop_r19))))))
  (.seq (.seq (.reg control_Loop_r20)
  (.block 4 (.loop (.seq (.reg control_Loop_r21)
  (.seq (.cond (tZ 85) .skip (.exit 4))
  (.seq (.block 5 (.seq (.reg control_Loop_r22)
  (.seq (.reg control_Loop_r23)
  (.seq (.reg control_Loop_r24)
  (.cond (tZ 92) (.seq (.reg control_Loop_r25)
  .ret) .skip)))))
  (.reg control_Loop_r26)))))))
  (.seq (.reg control_Loop_r27)
  (.seq (.seq (.reg control_Loop_r28)
  (.cond (tZ 101) (.seq (.reg control_Loop_r29)
  .ret) .skip))
  (.seq (.reg control_Loop_r30)
  (.seq (.reg control_Loop_r31)
  (.seq (.reg control_Loop_r32)
  (.cond (tZ 114) (.seq (.reg control_Loop_r33)
  .ret) .skip)))))))))
  (.reg control_Loop_r34))))))
  (.seq (.reg control_Loop_r35)
  .ret)))))))))))), [.tmp 8, .tmp 9]⟩
theorem control_Loop_s : slimF Try.prog 22 = some control_Loop_c := by kernel_rfl
abbrev control_Loop_f : Nat := 22
/-- printworks/control.Bound -/
def control_Bound_r0 : List SO := [rZ 2 (.box 54 (tZ 0)), rZ 4 (.assign (ciZ 0)), rZ 5 (.assign (ciZ 0))]
def control_Bound_r1 : List SO := [ldZ 7 54 2, rZ 8 (.call ⟨(.value (.func (36 : Nat))), #[(tZ 7)], #[54]⟩), asZ 6 8]
def control_Bound_r2 : List SO := [mvZ 9 6, bcZ 10 .neq 30 9 0 30]
def control_Bound_r3 : List SO := [mvZ 11 6, rZ 4 (.assign (ciZ 0)), asZ 5 11]
def control_Bound_r4 : List SO := [mvZ 12 1, bcZ 13 .lss 3 12 0 3, mvZ 14 13, gZ 14 false (mvZ 15 1), gZ 14 false (bcZ 16 .gtr 3 15 16 3), rZ 17 (.pick (tZ 14) (.const (.bool true)) (tZ 16))]
def control_Bound_r5 : List SO := [rZ 4 (.assign (ciZ 0)), rZ 5 (.assign (ciZ 3))]
def control_Bound_r6 : List SO := [mvZ 18 1, faZ 19 54 2 1, ldZ 20 3 19, boZ 21 .mul 3 18 20 3, rZ 22 (.call ⟨(.builtin .min), #[(ciZ 1000), (tZ 21)], #[3, 3]⟩), asZ 4 22, rZ 5 (.assign (ciZ 0))]
def control_Bound_c : SF := ⟨23, (.seq (.reg control_Bound_r0)
  (.seq (.seq (.reg control_Bound_r1)
  (.seq (.reg control_Bound_r2)
  (.cond (tZ 10) (.seq (.reg control_Bound_r3)
  .ret) .skip)))
  (.seq (.seq (.reg control_Bound_r4)
  (.cond (tZ 17) (.seq (.reg control_Bound_r5)
  .ret) .skip))
  (.seq (.reg control_Bound_r6)
  .ret)))), [.tmp 4, .tmp 5]⟩
theorem control_Bound_s : slimF Try.prog 23 = some control_Bound_c := by kernel_rfl
abbrev control_Bound_f : Nat := 23
/-- printworks/control.New -/
def control_New_r0 : List SO := [rZ 2 (.box 25 (tZ 0)), rZ 3 (.box 54 (tZ 1)), rZ 4 (.assign (.const (.pointer none))), rZ 5 (.assign (ciZ 0))]
def control_New_r1 : List SO := [ldZ 13 25 2, rZ 14 (.call ⟨(.value (.func (16 : Nat))), #[(tZ 13)], #[25]⟩), mvZ 12 14, exZ 15 12 0, exZ 16 12 1, asZ 6 15, asZ 7 16]
def control_New_r2 : List SO := [mvZ 17 7, bcZ 18 .neq 30 17 0 30]
def control_New_r3 : List SO := [mvZ 19 7, rZ 4 (.assign (.const (.pointer none))), asZ 5 19]
def control_New_r4 : List SO := [ldZ 20 54 3, rZ 21 (.call ⟨(.value (.func (36 : Nat))), #[(tZ 20)], #[54]⟩), asZ 8 21]
def control_New_r5 : List SO := [mvZ 22 8, bcZ 23 .neq 30 22 0 30]
def control_New_r6 : List SO := [mvZ 24 8, rZ 4 (.assign (.const (.pointer none))), asZ 5 24]
def control_New_r7 : List SO := [faZ 25 25 2 0, ldZ 26 3 25, rZ 27 (.build 25 #[(0, (tZ 26))]), ldZ 28 54 3, mvZ 29 6, rZ 30 (.call ⟨(.value (.func (17 : Nat))), #[(tZ 29)], #[43]⟩), rZ 31 (.build 90 #[(0, (tZ 27)), (1, (tZ 28)), (2, (tZ 30))]), rZ 32 (.box 90 (tZ 31)), asZ 9 32]
def control_New_a7 : List (List Nat) := [[], [0], [1], [], [], [4], [2, 3, 5], [6], [7, 5, 0, 1, 2, 3, 4, 5, 6, 7]]
def control_New_r8 : List SO := [mvZ 33 9, mvZ 34 9, rZ 35 (.nilCheck (tZ 34)), faZ 36 90 35 0, faZ 37 25 36 4, ldZ 38 22 37, faZ 39 25 2 4, ldZ 40 22 39, rZ 41 (.call ⟨(.builtin .append), #[(tZ 38), (tZ 40)], #[22, 22]⟩), rZ 42 (.nilCheck (tZ 33)), faZ 43 90 42 0, faZ 44 25 43 4, stZ 22 44 41]
def control_New_a8 : List (List Nat) := [[], [], [1], [2], [3], [4], [], [6], [5, 7], [0, 0, 1, 2, 3, 4, 5, 6, 7, 8], [9, 0, 1, 2, 3, 4, 5, 6, 7, 8], [10, 0, 1, 2, 3, 4, 5, 6, 7, 8], [11, 8, 8, 0, 1, 2, 3, 4, 5, 6, 7, 8]]
def control_New_r9 : List SO := [faZ 45 25 2 6, ldZ 46 23 45, rZ 47 (.call ⟨(.builtin .len), #[(tZ 46)], #[23]⟩), rZ 48 (.move (ciZ 0))]
def control_New_r10 : List SO := [boZ 49 .lss 3 48 47 3]
def control_New_r11 : List SO := [iaZ 50 23 46 48, ldZ 51 22 50, asZ 11 51]
def control_New_r12 : List SO := [mvZ 52 9, mvZ 53 9, rZ 54 (.nilCheck (tZ 53)), faZ 55 90 54 0, faZ 56 25 55 6, ldZ 57 23 56, mvZ 58 11, rZ 59 (.call ⟨(.builtin .append), #[(.const (.slice none 0 0)), (tZ 58)], #[22, 22]⟩), rZ 60 (.buildSlice 23 1 #[(0, (tZ 59))]), rZ 61 (.call ⟨(.builtin .append), #[(tZ 57), (tZ 60)], #[23, 23]⟩), rZ 62 (.nilCheck (tZ 52)), faZ 63 90 62 0, faZ 64 25 63 6, stZ 23 64 61]
def control_New_a12 : List (List Nat) := [[], [], [1], [2], [3], [4], [], [6], [7], [5, 8, 7], [0, 0, 1, 2, 3, 4, 5, 6, 7, 8, 9], [10, 0, 1, 2, 3, 4, 5, 6, 7, 8, 9], [11, 0, 1, 2, 3, 4, 5, 6, 7, 8, 9], [12, 9, 9, 0, 1, 2, 3, 4, 5, 6, 7, 8, 9]]
def control_New_r13 : List SO := [bcZ 65 .add 3 48 1 3, mvZ 48 65]
def control_New_r14 : List SO := [mvZ 66 9, asZ 4 66, rZ 5 (.assign (ciZ 0))]
def control_New_c : SF := ⟨67, (.seq (.reg control_New_r0)
  (.seq (.reg control_New_r1)
  (.seq (.seq (.reg control_New_r2)
  (.cond (tZ 18) (.seq (.reg control_New_r3)
  .ret) .skip))
  (.seq (.seq (.reg control_New_r4)
  (.seq (.reg control_New_r5)
  (.cond (tZ 23) (.seq (.reg control_New_r6)
  .ret) .skip)))
  (.seq (.regd control_New_r7 control_New_a7)
  (.seq (.regd control_New_r8 control_New_a8)
  (.seq (.seq (.reg control_New_r9)
  (.block 0 (.loop (.seq (.reg control_New_r10)
  (.seq (.cond (tZ 49) .skip (.exit 0))
  (.seq (.block 1 (.seq (.reg control_New_r11)
  (.regd control_New_r12 control_New_a12)))
  (.reg control_New_r13)))))))
  (.seq (.reg control_New_r14)
  .ret)))))))), [.tmp 4, .tmp 5]⟩
theorem control_New_s : slimF Try.prog 25 = some control_New_c := by kernel_rfl
abbrev control_New_f : Nat := 25
/-- (*printworks/control.Controller).Feed -/
def __control_Controller__Feed_r0 : List SO := [rZ 3 (.box 37 (tZ 1)), rZ 4 (.assign (.const (.slice none 0 0))), rZ 5 (.assign (ciZ 0))]
def __control_Controller__Feed_r1 : List SO := [mvZ 13 0, rZ 14 (.nilCheck (tZ 13)), faZ 15 90 14 3, ldZ 16 3 15, bcZ 17 .eql 3 16 4000 3]
def __control_Controller__Feed_r2 : List SO := [rZ 4 (.assign (.const (.slice none 0 0))), rZ 5 (.assign (ciZ 16))]
def __control_Controller__Feed_r3 : List SO := [mvZ 18 0, rZ 19 (.call ⟨(.value (.func (37 : Nat))), #[(tZ 18), (tZ 3)], #[61, 92]⟩), asZ 6 19]
def __control_Controller__Feed_r4 : List SO := [mvZ 20 6, bcZ 21 .neq 30 20 0 30]
def __control_Controller__Feed_r5 : List SO := [mvZ 22 6, rZ 4 (.assign (.const (.slice none 0 0))), asZ 5 22]
def __control_Controller__Feed_r6 : List SO := [mvZ 23 0, rZ 24 (.nilCheck (tZ 23)), faZ 25 90 24 3, ldZ 26 3 25, bcZ 27 .add 3 26 1 3, rZ 28 (.nilCheck (tZ 23)), faZ 29 90 28 3, stZ 3 29 27]
def __control_Controller__Feed_r7 : List SO := [mvZ 30 0, rZ 31 (.nilCheck (tZ 30)), faZ 32 90 31 3, ldZ 33 3 32, bcZ 34 .eql 3 33 4000 3]
def __control_Controller__Feed_r8 : List SO := [rZ 4 (.assign (.const (.slice none 0 0))), rZ 5 (.assign (ciZ 0))]
def __control_Controller__Feed_r9 : List SO := [rZ 7 (.assign (.const (.slice none 0 0)))]
def __control_Controller__Feed_r10 : List SO := [mvZ 35 0, rZ 36 (.nilCheck (tZ 35)), faZ 37 90 36 2, ldZ 38 23 37, rZ 39 (.call ⟨(.builtin .len), #[(tZ 38)], #[23]⟩), rZ 40 (.move (ciZ 0))]
def __control_Controller__Feed_r11 : List SO := [boZ 41 .lss 3 40 39 3]
def __control_Controller__Feed_r12 : List SO := [mvZ 42 40, asZ 8 42]
def __control_Controller__Feed_r13 : List SO := [mvZ 43 0, rZ 44 (.nilCheck (tZ 43)), faZ 45 90 44 3, ldZ 46 3 45, mvZ 47 0, rZ 48 (.nilCheck (tZ 47)), faZ 49 90 48 1, faZ 50 54 49 0, ldZ 51 3 50, boZ 52 .rem 3 46 51 3, bcZ 53 .eql 3 52 0 3]
def __control_Controller__Feed_a13 : List (List Nat) := [[], [0], [1], [2], [], [4], [5], [6], [7], [3, 8], [9]]
def __control_Controller__Feed_r14 : List SO := [mvZ 54 0, rZ 55 (.nilCheck (tZ 54)), faZ 56 90 55 2, ldZ 57 23 56, mvZ 58 8, iaZ 59 23 57 58, ldZ 60 22 59, rZ 61 (.call ⟨(.builtin .len), #[(tZ 60)], #[22]⟩), rZ 62 (.move (ciZ 0))]
def __control_Controller__Feed_r15 : List SO := [boZ 63 .lss 3 62 61 3]
def __control_Controller__Feed_r16 : List SO := [mvZ 64 62, iaZ 65 22 60 62, ldZ 66 3 65, asZ 9 64, asZ 10 66]
def __control_Controller__Feed_r17 : List SO := [mvZ 67 0, rZ 68 (.nilCheck (tZ 67)), faZ 69 90 68 0, faZ 70 25 69 4, ldZ 71 22 70, mvZ 72 8, iaZ 73 22 71 72, ldZ 74 3 73, faZ 75 37 3 3, ldZ 76 23 75, mvZ 77 8, iaZ 78 23 76 77, ldZ 79 22 78, mvZ 80 9, iaZ 81 22 79 80, ldZ 82 3 81, boZ 83 .sub 3 74 82 3, asZ 11 83]
def __control_Controller__Feed_a17 : List (List Nat) := [[], [0], [1], [2], [3], [], [4, 5], [6], [], [8], [], [9, 10], [11], [], [12, 13], [14], [7, 15], [16, 0, 1, 2, 3, 4, 5, 6, 7, 8, 9, 10, 11, 12, 13, 14, 15, 16]]
def __control_Controller__Feed_r18 : List SO := [mvZ 84 10, mvZ 85 11, mvZ 86 0, rZ 87 (.nilCheck (tZ 86)), faZ 88 90 87 0, faZ 89 25 88 6, ldZ 90 23 89, mvZ 91 8, iaZ 92 23 90 91, ldZ 93 22 92, mvZ 94 9, iaZ 95 22 93 94, ldZ 96 3 95, rZ 97 (.binOp .add 3 (ciZ 8) (tZ 96) 3), boZ 98 .mul 3 85 97 3, rZ 99 (.call ⟨(.value (.func (38 : Nat))), #[(tZ 98), (ciZ 128)], #[3, 3]⟩), boZ 100 .add 3 84 99 3, rZ 101 (.call ⟨(.builtin .min), #[(ciZ 1000), (tZ 100)], #[3, 3]⟩), rZ 102 (.call ⟨(.builtin .max), #[(ciZ 0), (tZ 101)], #[3, 3]⟩), asZ 10 102]
def __control_Controller__Feed_r19 : List SO := [mvZ 103 10, mvZ 104 0, rZ 105 (.nilCheck (tZ 104)), faZ 106 90 105 2, ldZ 107 23 106, mvZ 108 8, iaZ 109 23 107 108, ldZ 110 22 109, mvZ 111 9, iaZ 112 22 110 111, ldZ 113 3 112, boZ 114 .neq 3 103 113 3]
def __control_Controller__Feed_r20 : List SO := [mvZ 115 0, rZ 116 (.nilCheck (tZ 115)), faZ 117 90 116 2, ldZ 118 23 117, mvZ 119 8, iaZ 120 23 118 119, ldZ 121 22 120, mvZ 122 9, mvZ 123 10, iaZ 124 22 121 122, stZ 3 124 123]
def __control_Controller__Feed_r21 : List SO := [mvZ 125 7, mvZ 126 0, rZ 127 (.nilCheck (tZ 126)), faZ 128 90 127 3, ldZ 129 3 128, bcZ 130 .add 3 129 1 3, mvZ 131 8, mvZ 132 9, mvZ 133 10, rZ 134 (.build 49 #[(0, (tZ 130)), (1, (ciZ 1)), (2, (tZ 131)), (3, (tZ 132)), (4, (tZ 133))]), rZ 135 (.buildSlice 26 1 #[(0, (tZ 134))]), rZ 136 (.call ⟨(.builtin .append), #[(tZ 125), (tZ 135)], #[26, 26]⟩), asZ 7 136]
def __control_Controller__Feed_r22 : List SO := [bcZ 137 .add 3 62 1 3, mvZ 62 137]
def __control_Controller__Feed_r23 : List SO := [faZ 138 37 3 2, ldZ 139 35 138, mvZ 140 8, iaZ 141 35 139 140, ldZ 142 40 141, rZ 12 (.alloc 40), stZ 40 12 142]
def __control_Controller__Feed_r24 : List SO := [mvZ 143 0, rZ 144 (.nilCheck (tZ 143)), faZ 145 90 144 3, ldZ 146 3 145, mvZ 147 0, rZ 148 (.nilCheck (tZ 147)), faZ 149 90 148 1, faZ 150 54 149 1, ldZ 151 3 150, boZ 152 .rem 3 146 151 3, bcZ 153 .eql 3 152 0 3, mvZ 154 153, gZ 154 true (ldZ 155 40 12), gZ 154 true (rZ 156 (.build 40 #[])), gZ 154 true (boZ 157 .neq 40 155 156 40), rZ 158 (.pick (tZ 154) (tZ 157) (.const (.bool false)))]
def __control_Controller__Feed_a24 : List (List Nat) := [[], [0], [1], [2], [], [4], [5], [6], [7], [3, 8], [9], [10], [11], [11], [12, 13, 11], [11, 14]]
def __control_Controller__Feed_r25 : List SO := [mvZ 159 7, mvZ 160 0, rZ 161 (.nilCheck (tZ 160)), faZ 162 90 161 3, ldZ 163 3 162, bcZ 164 .add 3 163 1 3, mvZ 165 8, faZ 166 40 12 0, ldZ 167 3 166, rZ 168 (.unOp .neg 3 (tZ 167)), faZ 169 40 12 1, ldZ 170 3 169, rZ 171 (.unOp .neg 3 (tZ 170)), rZ 172 (.build 49 #[(0, (tZ 164)), (1, (ciZ 4)), (2, (tZ 165)), (4, (tZ 168)), (5, (tZ 171))]), rZ 173 (.buildSlice 26 1 #[(0, (tZ 172))]), rZ 174 (.call ⟨(.builtin .append), #[(tZ 159), (tZ 173)], #[26, 26]⟩), asZ 7 174]
def __control_Controller__Feed_a25 : List (List Nat) := [[], [], [1], [2], [3], [4], [], [], [7], [8], [], [10], [11], [5, 6, 9, 12], [13], [0, 14], [15, 15, 0, 1, 2, 3, 4, 5, 6, 7, 8, 9, 10, 11, 12, 13, 14, 15]]
def __control_Controller__Feed_r26 : List SO := [bcZ 175 .add 3 40 1 3, mvZ 40 175]
def __control_Controller__Feed_r27 : List SO := [mvZ 176 7, asZ 4 176, rZ 5 (.assign (ciZ 0))]
def __control_Controller__Feed_c : SF := ⟨177, (.seq (.reg __control_Controller__Feed_r0)
  (.seq (.seq (.reg __control_Controller__Feed_r1)
  (.cond (tZ 17) (.seq (.reg __control_Controller__Feed_r2)
  .ret) .skip))
  (.seq (.seq (.reg __control_Controller__Feed_r3)
  (.seq (.reg __control_Controller__Feed_r4)
  (.cond (tZ 21) (.seq (.reg __control_Controller__Feed_r5)
  .ret) .skip)))
  (.seq (.reg __control_Controller__Feed_r6)
  (.seq (.seq (.reg __control_Controller__Feed_r7)
  (.cond (tZ 34) (.seq (.reg __control_Controller__Feed_r8)
  .ret) .skip))
  (.seq (.reg __control_Controller__Feed_r9)
  (.seq (.seq (.reg __control_Controller__Feed_r10)
  (.block 0 (.loop (.seq (.reg __control_Controller__Feed_r11)
  (.seq (.cond (tZ 41) .skip (.exit 0))
  (.seq (.block 1 (.seq (.reg __control_Controller__Feed_r12)
  (.seq (.seq (.regd __control_Controller__Feed_r13 __control_Controller__Feed_a13)
  (.cond (tZ 53) (.seq (.reg __control_Controller__Feed_r14)
  (.block 2 (.loop (.seq (.reg __control_Controller__Feed_r15)
  (.seq (.cond (tZ 63) .skip (.exit 2))
  (.seq (.block 3 (.seq (.reg __control_Controller__Feed_r16)
  (.seq (.regd __control_Controller__Feed_r17 __control_Controller__Feed_a17)
  (.seq (.reg __control_Controller__Feed_r18)
  (.seq (.reg __control_Controller__Feed_r19)
  (.cond (tZ 114) (.seq (.reg __control_Controller__Feed_r20)
  (.reg __control_Controller__Feed_r21)) .skip))))))
  (.reg __control_Controller__Feed_r22))))))) .skip))
  (.seq (.reg __control_Controller__Feed_r23)
  (.seq (.regd __control_Controller__Feed_r24 __control_Controller__Feed_a24)
  (.cond (tZ 158) (.regd __control_Controller__Feed_r25 __control_Controller__Feed_a25) .skip))))))
  (.reg __control_Controller__Feed_r26)))))))
  (.seq (.reg __control_Controller__Feed_r27)
  .ret)))))))), [.tmp 4, .tmp 5]⟩
theorem __control_Controller__Feed_s : slimF Try.prog 26 = some __control_Controller__Feed_c := by kernel_rfl
abbrev __control_Controller__Feed_f : Nat := 26
/-- printworks/control.Check -/
def control_Check_r0 : List SO := [rZ 1 (.box 54 (tZ 0)), rZ 2 (.assign (ciZ 0))]
def control_Check_r1 : List SO := [faZ 3 54 1 0, ldZ 4 3 3, bcZ 5 .lss 3 4 1 3, mvZ 6 5, gZ 6 false (faZ 7 54 1 0), gZ 6 false (ldZ 8 3 7), gZ 6 false (bcZ 9 .gtr 3 8 4000 3), rZ 10 (.pick (tZ 6) (.const (.bool true)) (tZ 9)), mvZ 11 10, gZ 11 false (faZ 12 54 1 1), gZ 11 false (ldZ 13 3 12), gZ 11 false (bcZ 14 .lss 3 13 1 3), rZ 15 (.pick (tZ 11) (.const (.bool true)) (tZ 14)), mvZ 16 15, gZ 16 false (faZ 17 54 1 1), gZ 16 false (ldZ 18 3 17), gZ 16 false (bcZ 19 .gtr 3 18 4000 3), rZ 20 (.pick (tZ 16) (.const (.bool true)) (tZ 19))]
def control_Check_r2 : List SO := [rZ 2 (.assign (ciZ 3))]
def control_Check_r3 : List SO := [rZ 2 (.assign (ciZ 0))]
def control_Check_c : SF := ⟨21, (.seq (.reg control_Check_r0)
  (.seq (.seq (.reg control_Check_r1)
  (.cond (tZ 20) (.seq (.reg control_Check_r2)
  .ret) .skip))
  (.seq (.reg control_Check_r3)
  .ret))), [.tmp 2]⟩
theorem control_Check_s : slimF Try.prog 36 = some control_Check_c := by kernel_rfl
abbrev control_Check_f : Nat := 36
/-- (*printworks/control.Controller).check -/
def __control_Controller__check_r0 : List SO := [rZ 4 (.assign (ciZ 0))]
def __control_Controller__check_r1 : List SO := [mvZ 10 1, rZ 11 (.nilCheck (tZ 10)), faZ 12 37 11 0, ldZ 13 3 12, mvZ 14 0, rZ 15 (.nilCheck (tZ 14)), faZ 16 90 15 3, ldZ 17 3 16, bcZ 18 .add 3 17 1 3, boZ 19 .neq 3 13 18 3]
def __control_Controller__check_a1 : List (List Nat) := [[], [0], [1], [2], [], [4], [5], [6], [7], [3, 8]]
def __control_Controller__check_r2 : List SO := [rZ 4 (.assign (ciZ 18))]
def __control_Controller__check_r3 : List SO := [mvZ 20 1, rZ 21 (.nilCheck (tZ 20)), faZ 22 37 21 2, ldZ 23 35 22, rZ 24 (.call ⟨(.builtin .len), #[(tZ 23)], #[35]⟩), mvZ 25 0, rZ 26 (.nilCheck (tZ 25)), faZ 27 90 26 2, ldZ 28 23 27, rZ 29 (.call ⟨(.builtin .len), #[(tZ 28)], #[23]⟩), boZ 30 .neq 3 24 29 3, mvZ 31 30, gZ 31 false (mvZ 32 1), gZ 31 false (rZ 33 (.nilCheck (tZ 32))), gZ 31 false (faZ 34 37 33 3), gZ 31 false (ldZ 35 23 34), gZ 31 false (rZ 36 (.call ⟨(.builtin .len), #[(tZ 35)], #[23]⟩)), gZ 31 false (mvZ 37 0), gZ 31 false (rZ 38 (.nilCheck (tZ 37))), gZ 31 false (faZ 39 90 38 2), gZ 31 false (ldZ 40 23 39), gZ 31 false (rZ 41 (.call ⟨(.builtin .len), #[(tZ 40)], #[23]⟩)), gZ 31 false (boZ 42 .neq 3 36 41 3), rZ 43 (.pick (tZ 31) (.const (.bool true)) (tZ 42))]
def __control_Controller__check_a3 : List (List Nat) := [[], [0], [1], [2], [3], [], [5], [6], [7], [8], [4, 9], [10], [11], [12, 11], [13, 11], [14, 11], [15, 11], [11], [17, 11], [18, 11], [19, 11], [20, 11], [16, 21, 11], [11, 22]]
def __control_Controller__check_r4 : List SO := [rZ 4 (.assign (ciZ 4))]
def __control_Controller__check_r5 : List SO := [mvZ 44 1, rZ 45 (.nilCheck (tZ 44)), faZ 46 37 45 3, ldZ 47 23 46, rZ 48 (.call ⟨(.builtin .len), #[(tZ 47)], #[23]⟩), rZ 49 (.move (ciZ 0))]
def __control_Controller__check_r6 : List SO := [boZ 50 .lss 3 49 48 3]
def __control_Controller__check_r7 : List SO := [mvZ 51 49, iaZ 52 23 47 49, ldZ 53 22 52, asZ 5 51, asZ 6 53]
def __control_Controller__check_r8 : List SO := [mvZ 54 6, rZ 55 (.call ⟨(.builtin .len), #[(tZ 54)], #[22]⟩), mvZ 56 0, rZ 57 (.nilCheck (tZ 56)), faZ 58 90 57 0, faZ 59 25 58 0, ldZ 60 3 59, boZ 61 .neq 3 55 60 3]
def __control_Controller__check_r9 : List SO := [rZ 4 (.assign (ciZ 4))]
def __control_Controller__check_r10 : List SO := [mvZ 62 1, rZ 63 (.nilCheck (tZ 62)), faZ 64 37 63 2, ldZ 65 35 64, mvZ 66 5, iaZ 67 35 65 66, ldZ 68 40 67, rZ 7 (.alloc 40), stZ 40 7 68]
def __control_Controller__check_r11 : List SO := [faZ 69 40 7 0, ldZ 70 3 69, rZ 71 (.binOp .lss 3 (tZ 70) (.const (.int .i64 (-1000))) 3), mvZ 72 71, gZ 72 false (faZ 73 40 7 0), gZ 72 false (ldZ 74 3 73), gZ 72 false (bcZ 75 .gtr 3 74 1000 3), rZ 76 (.pick (tZ 72) (.const (.bool true)) (tZ 75)), mvZ 77 76, gZ 77 false (faZ 78 40 7 1), gZ 77 false (ldZ 79 3 78), gZ 77 false (rZ 80 (.binOp .lss 3 (tZ 79) (.const (.int .i64 (-1000))) 3)), rZ 81 (.pick (tZ 77) (.const (.bool true)) (tZ 80)), mvZ 82 81, gZ 82 false (faZ 83 40 7 1), gZ 82 false (ldZ 84 3 83), gZ 82 false (bcZ 85 .gtr 3 84 1000 3), rZ 86 (.pick (tZ 82) (.const (.bool true)) (tZ 85))]
def __control_Controller__check_r12 : List SO := [rZ 4 (.assign (ciZ 3))]
def __control_Controller__check_r13 : List SO := [mvZ 87 6, rZ 88 (.call ⟨(.builtin .len), #[(tZ 87)], #[22]⟩), rZ 89 (.move (ciZ 0))]
def __control_Controller__check_r14 : List SO := [boZ 90 .lss 3 89 88 3]
def __control_Controller__check_r15 : List SO := [iaZ 91 22 87 89, ldZ 92 3 91, asZ 9 92]
def __control_Controller__check_r16 : List SO := [mvZ 93 9, bcZ 94 .lss 3 93 0 3, mvZ 95 94, gZ 95 false (mvZ 96 9), gZ 95 false (bcZ 97 .gtr 3 96 24000 3), rZ 98 (.pick (tZ 95) (.const (.bool true)) (tZ 97))]
def __control_Controller__check_r17 : List SO := [rZ 4 (.assign (ciZ 3))]
def __control_Controller__check_r18 : List SO := [bcZ 99 .add 3 89 1 3, mvZ 89 99]
def __control_Controller__check_r19 : List SO := [bcZ 100 .add 3 49 1 3, mvZ 49 100]
def __control_Controller__check_r20 : List SO := [rZ 4 (.assign (ciZ 0))]
def __control_Controller__check_c : SF := ⟨101, (.seq (.reg __control_Controller__check_r0)
  (.seq (.seq (.regd __control_Controller__check_r1 __control_Controller__check_a1)
  (.cond (tZ 19) (.seq (.reg __control_Controller__check_r2)
  .ret) .skip))
  (.seq (.seq (.regd __control_Controller__check_r3 __control_Controller__check_a3)
  (.cond (tZ 43) (.seq (.reg __control_Controller__check_r4)
  .ret) .skip))
  (.seq (.seq (.reg __control_Controller__check_r5)
  (.block 0 (.loop (.seq (.reg __control_Controller__check_r6)
  (.seq (.cond (tZ 50) .skip (.exit 0))
  (.seq (.block 1 (.seq (.reg __control_Controller__check_r7)
  (.seq (.seq (.reg __control_Controller__check_r8)
  (.cond (tZ 61) (.seq (.reg __control_Controller__check_r9)
  .ret) .skip))
  (.seq (.seq (.reg __control_Controller__check_r10)
  (.seq (.reg __control_Controller__check_r11)
  (.cond (tZ 86) (.seq (.reg __control_Controller__check_r12)
  .ret) .skip)))
  (.seq (.reg __control_Controller__check_r13)
  (.block 2 (.loop (.seq (.reg __control_Controller__check_r14)
  (.seq (.cond (tZ 90) .skip (.exit 2))
  (.seq (.block 3 (.seq (.reg __control_Controller__check_r15)
  (.seq (.reg __control_Controller__check_r16)
  (.cond (tZ 98) (.seq (.reg __control_Controller__check_r17)
  .ret) .skip))))
  (.reg __control_Controller__check_r18)))))))))))
  (.reg __control_Controller__check_r19)))))))
  (.seq (.reg __control_Controller__check_r20)
  .ret))))), [.tmp 4]⟩
theorem __control_Controller__check_s : slimF Try.prog 37 = some __control_Controller__check_c := by kernel_rfl
abbrev __control_Controller__check_f : Nat := 37

end Go.Proofs.Ytbaepacihkgalaa
namespace Go.Proofs.Ytbaepacihkgalaa
open Go Go.Lite
set_option linter.unusedVariables false

/-- printworks/printworkskeep2.controlWorks -/
def K2_controlWorks_r0 : List SO := [rZ 0 (.assign (.const (.bool false)))]
def K2_controlWorks_r1 : List SO := [rZ 8 (.call ⟨(.value (.func (24 : Nat))), #[], #[]⟩), rZ 9 (.build 54 #[(0, (ciZ 1)), (1, (ciZ 1))]), rZ 10 (.call ⟨(.value (.func (25 : Nat))), #[(tZ 8), (tZ 9)], #[25, 54]⟩), mvZ 7 10, exZ 11 7 0, exZ 12 7 1, asZ 1 11, asZ 2 12]
def K2_controlWorks_r2 : List SO := [mvZ 13 2, bcZ 14 .neq 30 13 0 30, mvZ 15 14, gZ 15 false (mvZ 16 1), gZ 15 false (rZ 17 (.binOp .eql 61 (tZ 16) (.const (.pointer none)) 61)), rZ 18 (.pick (tZ 15) (.const (.bool true)) (tZ 17))]
def K2_controlWorks_r3 : List SO := [rZ 0 (.assign (.const (.bool false)))]
def K2_controlWorks_r4 : List SO := [mvZ 20 1, rZ 21 (.build 40 #[]), rZ 22 (.buildSlice 35 1 #[(0, (tZ 21))]), rZ 23 (.buildSlice 22 1 #[(0, (ciZ 1000))]), rZ 24 (.buildSlice 23 1 #[(0, (tZ 23))]), rZ 25 (.build 37 #[(0, (ciZ 1)), (2, (tZ 22)), (3, (tZ 24))]), rZ 26 (.call ⟨(.value (.func (26 : Nat))), #[(tZ 20), (tZ 25)], #[61, 37]⟩), mvZ 19 26, exZ 27 19 0, exZ 28 19 1, asZ 3 27, asZ 4 28]
def K2_controlWorks_r5 : List SO := [rZ 30 (.build 54 #[(0, (ciZ 1)), (1, (ciZ 10))]), rZ 31 (.call ⟨(.value (.func (23 : Nat))), #[(tZ 30), (ciZ 2)], #[54, 3]⟩), mvZ 29 31, exZ 32 29 0, exZ 33 29 1, asZ 5 32, asZ 6 33]
def K2_controlWorks_r6 : List SO := [mvZ 34 4, bcZ 35 .eql 30 34 0 30, mvZ 36 35, gZ 36 true (mvZ 37 3), gZ 36 true (rZ 38 (.call ⟨(.builtin .len), #[(tZ 37)], #[26]⟩)), gZ 36 true (bcZ 39 .eql 3 38 1 3), rZ 40 (.pick (tZ 36) (tZ 39) (.const (.bool false))), mvZ 41 40, gZ 41 true (mvZ 42 3), gZ 41 true (rZ 43 (.indexAddr 26 (tZ 42) (ciZ 0))), gZ 41 true (ldZ 44 49 43), gZ 41 true (rZ 45 (.build 49 #[(0, (ciZ 2)), (1, (ciZ 1)), (4, (ciZ 938))])), gZ 41 true (boZ 46 .eql 49 44 45 49), rZ 47 (.pick (tZ 41) (tZ 46) (.const (.bool false))), mvZ 48 47, gZ 48 true (mvZ 49 6), gZ 48 true (bcZ 50 .eql 30 49 0 30), rZ 51 (.pick (tZ 48) (tZ 50) (.const (.bool false))), mvZ 52 51, gZ 52 true (mvZ 53 5), gZ 52 true (bcZ 54 .eql 3 53 20 3), rZ 55 (.pick (tZ 52) (tZ 54) (.const (.bool false))), asZ 0 55]
def K2_controlWorks_c : SF := ⟨56, (.seq (.reg K2_controlWorks_r0)
  (.seq (.reg K2_controlWorks_r1)
  (.seq (.seq (.reg K2_controlWorks_r2)
  (.cond (tZ 18) (.seq (.reg K2_controlWorks_r3)
  .ret) .skip))
  (.seq (.reg K2_controlWorks_r4)
  (.seq (.reg K2_controlWorks_r5)
  (.seq (.reg K2_controlWorks_r6)
  .ret)))))), [.tmp 0]⟩
theorem K2_controlWorks_s : slimF Try.prog 21 = some K2_controlWorks_c := by kernel_rfl
abbrev K2_controlWorks_f : Nat := 21
/-- printworks/printworkskeep2.little -/
def K2_little_r0 : List SO := [rZ 0 (.alloc 25)]
def K2_little_r1 : List SO := [rZ 1 (.buildSlice 22 1 #[(0, (ciZ 8000))]), rZ 2 (.buildSlice 22 1 #[(0, (ciZ 500))]), rZ 3 (.buildSlice 23 1 #[(0, (tZ 2))]), rZ 4 (.buildSlice 22 1 #[(0, (ciZ 0))]), rZ 5 (.buildSlice 23 1 #[(0, (tZ 4))]), rZ 6 (.build 25 #[(0, (ciZ 1)), (2, (ciZ 5)), (3, (ciZ 100)), (4, (tZ 1)), (5, (tZ 3)), (6, (tZ 5))]), stZ 25 0 6]
def K2_little_c : SF := ⟨7, (.seq (.reg K2_little_r0)
  (.seq (.reg K2_little_r1)
  .ret)), [.cell 0 25]⟩
theorem K2_little_s : slimF Try.prog 24 = some K2_little_c := by kernel_rfl
abbrev K2_little_f : Nat := 24

end Go.Proofs.Ytbaepacihkgalaa
namespace Go.Proofs.Ytbaepacihkgalaa
open Go Go.Lite
set_option linter.unusedVariables false

/-- printworks/printworksref2.Mod -/
def R2_Mod_r0 : List SO := [rZ 4 (.assign (ciZ 0))]
def R2_Mod_r1 : List SO := [mvZ 5 0, mvZ 6 1, mvZ 7 0, mvZ 8 1, rZ 9 (.call ⟨(.value (.func (15 : Nat))), #[(tZ 7), (tZ 8)], #[3, 3]⟩), boZ 10 .mul 3 6 9 3, boZ 11 .sub 3 5 10 3, asZ 4 11]
def R2_Mod_c : SF := ⟨12, (.seq (.reg R2_Mod_r0)
  (.seq (.reg R2_Mod_r1)
  .ret)), [.tmp 4]⟩
theorem R2_Mod_s : slimF Try.prog 11 = some R2_Mod_c := by kernel_rfl
abbrev R2_Mod_f : Nat := 11
/-- printworks/printworksref2.Floor -/
def R2_Floor_r0 : List SO := [rZ 4 (.assign (ciZ 0))]
def R2_Floor_r1 : List SO := [mvZ 6 0, mvZ 7 1, boZ 8 .quo 3 6 7 3, asZ 5 8]
def R2_Floor_r2 : List SO := [mvZ 9 5, mvZ 10 1, boZ 11 .mul 3 9 10 3, mvZ 12 0, boZ 13 .gtr 3 11 12 3]
def R2_Floor_r3 : List SO := [mvZ 14 5, bcZ 15 .sub 3 14 1 3, asZ 5 15]
def R2_Floor_r4 : List SO := [mvZ 16 5, asZ 4 16]
def R2_Floor_c : SF := ⟨17, (.seq (.reg R2_Floor_r0)
  (.seq (.reg R2_Floor_r1)
  (.seq (.seq (.reg R2_Floor_r2)
  (.cond (tZ 13) (.reg R2_Floor_r3) .skip))
  (.seq (.reg R2_Floor_r4)
  .ret)))), [.tmp 4]⟩
theorem R2_Floor_s : slimF Try.prog 15 = some R2_Floor_c := by kernel_rfl
abbrev R2_Floor_f : Nat := 15
/-- printworks/printworksref2.SameRecords -/
def R2_SameRecords_r0 : List SO := [rZ 4 (.assign (.const (.bool false)))]
def R2_SameRecords_r1 : List SO := [mvZ 10 0, rZ 11 (.call ⟨(.builtin .len), #[(tZ 10)], #[29]⟩), mvZ 12 1, rZ 13 (.call ⟨(.builtin .len), #[(tZ 12)], #[29]⟩), boZ 14 .neq 3 11 13 3]
def R2_SameRecords_r2 : List SO := [rZ 4 (.assign (.const (.bool false)))]
def R2_SameRecords_r3 : List SO := [mvZ 15 0, rZ 16 (.call ⟨(.builtin .len), #[(tZ 15)], #[29]⟩), rZ 17 (.move (ciZ 0))]
def R2_SameRecords_r4 : List SO := [boZ 18 .lss 3 17 16 3]
def R2_SameRecords_r5 : List SO := [mvZ 19 17, asZ 5 19]
def R2_SameRecords_r6 : List SO := [mvZ 20 0, mvZ 21 5, iaZ 22 29 20 21, ldZ 23 37 22, mvZ 24 1, mvZ 25 5, iaZ 26 29 24 25, ldZ 27 37 26, rZ 6 (.alloc 37), rZ 7 (.alloc 37), stZ 37 6 23, stZ 37 7 27]
def R2_SameRecords_a6 : List (List Nat) := [[], [], [0, 1], [2], [], [], [4, 5], [6], [], [], [8, 3, 0, 1, 2, 3, 8, 9], [9, 7, 10, 0, 1, 2, 3, 4, 5, 6, 7, 8, 9, 10]]
def R2_SameRecords_r7 : List SO := [faZ 28 37 6 0, ldZ 29 3 28, faZ 30 37 7 0, ldZ 31 3 30, boZ 32 .neq 3 29 31 3, mvZ 33 32, gZ 33 false (faZ 34 37 6 1), gZ 33 false (ldZ 35 3 34), gZ 33 false (faZ 36 37 7 1), gZ 33 false (ldZ 37 3 36), gZ 33 false (boZ 38 .neq 3 35 37 3), rZ 39 (.pick (tZ 33) (.const (.bool true)) (tZ 38)), mvZ 40 39, gZ 40 false (faZ 41 37 6 4), gZ 40 false (ldZ 42 3 41), gZ 40 false (faZ 43 37 7 4), gZ 40 false (ldZ 44 3 43), gZ 40 false (boZ 45 .neq 3 42 44 3), rZ 46 (.pick (tZ 40) (.const (.bool true)) (tZ 45)), mvZ 47 46, gZ 47 false (faZ 48 37 6 2), gZ 47 false (ldZ 49 35 48), gZ 47 false (rZ 50 (.call ⟨(.builtin .len), #[(tZ 49)], #[35]⟩)), gZ 47 false (faZ 51 37 7 2), gZ 47 false (ldZ 52 35 51), gZ 47 false (rZ 53 (.call ⟨(.builtin .len), #[(tZ 52)], #[35]⟩)), gZ 47 false (boZ 54 .neq 3 50 53 3), rZ 55 (.pick (tZ 47) (.const (.bool true)) (tZ 54)), mvZ 56 55, gZ 56 false (faZ 57 37 6 3), gZ 56 false (ldZ 58 23 57), gZ 56 false (rZ 59 (.call ⟨(.builtin .len), #[(tZ 58)], #[23]⟩)), gZ 56 false (faZ 60 37 7 3), gZ 56 false (ldZ 61 23 60), gZ 56 false (rZ 62 (.call ⟨(.builtin .len), #[(tZ 61)], #[23]⟩)), gZ 56 false (boZ 63 .neq 3 59 62 3), rZ 64 (.pick (tZ 56) (.const (.bool true)) (tZ 63))]
def R2_SameRecords_r8 : List SO := [rZ 4 (.assign (.const (.bool false)))]
def R2_SameRecords_r9 : List SO := [faZ 65 37 6 2, ldZ 66 35 65, rZ 67 (.call ⟨(.builtin .len), #[(tZ 66)], #[35]⟩), rZ 68 (.move (ciZ 0))]
def R2_SameRecords_r10 : List SO := [boZ 69 .lss 3 68 67 3]
def R2_SameRecords_r11 : List SO := [mvZ 70 68, asZ 8 70]
def R2_SameRecords_r12 : List SO := [faZ 71 37 6 2, ldZ 72 35 71, mvZ 73 8, iaZ 74 35 72 73, ldZ 75 40 74, faZ 76 37 7 2, ldZ 77 35 76, mvZ 78 8, iaZ 79 35 77 78, ldZ 80 40 79, boZ 81 .neq 40 75 80 40]
def R2_SameRecords_a12 : List (List Nat) := [[], [0], [], [1, 2], [3], [], [5], [], [6, 7], [8], [4, 9]]
def R2_SameRecords_r13 : List SO := [rZ 4 (.assign (.const (.bool false)))]
def R2_SameRecords_r14 : List SO := [bcZ 82 .add 3 68 1 3, mvZ 68 82]
def R2_SameRecords_r15 : List SO := [faZ 83 37 6 3, ldZ 84 23 83, rZ 85 (.call ⟨(.builtin .len), #[(tZ 84)], #[23]⟩), rZ 86 (.move (ciZ 0))]
def R2_SameRecords_r16 : List SO := [boZ 87 .lss 3 86 85 3]
def R2_SameRecords_r17 : List SO := [mvZ 88 86, asZ 9 88]
def R2_SameRecords_r18 : List SO := [faZ 89 37 6 3, ldZ 90 23 89, mvZ 91 9, iaZ 92 23 90 91, ldZ 93 22 92, faZ 94 37 7 3, ldZ 95 23 94, mvZ 96 9, iaZ 97 23 95 96, ldZ 98 22 97, rZ 99 (.call ⟨(.value (.func (27 : Nat))), #[(tZ 93), (tZ 98)], #[22, 22]⟩), rZ 100 (.unOp .not 4 (tZ 99))]
def R2_SameRecords_a18 : List (List Nat) := [[], [0], [], [1, 2], [3], [], [5], [], [6, 7], [8], [4, 9], [10]]
def R2_SameRecords_r19 : List SO := [rZ 4 (.assign (.const (.bool false)))]
def R2_SameRecords_r20 : List SO := [bcZ 101 .add 3 86 1 3, mvZ 86 101]
def R2_SameRecords_r21 : List SO := [bcZ 102 .add 3 17 1 3, mvZ 17 102]
def R2_SameRecords_r22 : List SO := [rZ 4 (.assign (.const (.bool true)))]
def R2_SameRecords_c : SF := ⟨103, (.seq (.reg R2_SameRecords_r0)
  (.seq (.seq (.reg R2_SameRecords_r1)
  (.cond (tZ 14) (.seq (.reg R2_SameRecords_r2)
  .ret) .skip))
  (.seq (.seq (.reg R2_SameRecords_r3)
  (.block 0 (.loop (.seq (.reg R2_SameRecords_r4)
  (.seq (.cond (tZ 18) .skip (.exit 0))
  (.seq (.block 1 (.seq (.reg R2_SameRecords_r5)
  (.seq (.regd R2_SameRecords_r6 R2_SameRecords_a6)
  (.seq (.seq (.reg R2_SameRecords_r7)
  (.cond (tZ 64) (.seq (.reg R2_SameRecords_r8)
  .ret) .skip))
  (.seq (.seq (.reg R2_SameRecords_r9)
  (.block 2 (.loop (.seq (.reg R2_SameRecords_r10)
  (.seq (.cond (tZ 69) .skip (.exit 2))
  (.seq (.block 3 (.seq (.reg R2_SameRecords_r11)
  (.seq (.regd R2_SameRecords_r12 R2_SameRecords_a12)
  (.cond (tZ 81) (.seq (.reg R2_SameRecords_r13)
  .ret) .skip))))
  (.reg R2_SameRecords_r14)))))))
  (.seq (.reg R2_SameRecords_r15)
  (.block 4 (.loop (.seq (.reg R2_SameRecords_r16)
  (.seq (.cond (tZ 87) .skip (.exit 4))
  (.seq (.block 5 (.seq (.reg R2_SameRecords_r17)
  (.seq (.regd R2_SameRecords_r18 R2_SameRecords_a18)
  (.cond (tZ 100) (.seq (.reg R2_SameRecords_r19)
  .ret) .skip))))
  (.reg R2_SameRecords_r20))))))))))))
  (.reg R2_SameRecords_r21)))))))
  (.seq (.reg R2_SameRecords_r22)
  .ret)))), [.tmp 4]⟩
theorem R2_SameRecords_s : slimF Try.prog 20 = some R2_SameRecords_c := by kernel_rfl
abbrev R2_SameRecords_f : Nat := 20
/-- printworks/printworksref2.SameInts -/
def R2_SameInts_r0 : List SO := [rZ 4 (.assign (.const (.bool false)))]
def R2_SameInts_r1 : List SO := [mvZ 6 0, rZ 7 (.call ⟨(.builtin .len), #[(tZ 6)], #[22]⟩), mvZ 8 1, rZ 9 (.call ⟨(.builtin .len), #[(tZ 8)], #[22]⟩), boZ 10 .neq 3 7 9 3]
def R2_SameInts_r2 : List SO := [rZ 4 (.assign (.const (.bool false)))]
def R2_SameInts_r3 : List SO := [mvZ 11 0, rZ 12 (.call ⟨(.builtin .len), #[(tZ 11)], #[22]⟩), rZ 13 (.move (ciZ 0))]
def R2_SameInts_r4 : List SO := [boZ 14 .lss 3 13 12 3]
def R2_SameInts_r5 : List SO := [mvZ 15 13, asZ 5 15]
def R2_SameInts_r6 : List SO := [mvZ 16 0, mvZ 17 5, iaZ 18 22 16 17, ldZ 19 3 18, mvZ 20 1, mvZ 21 5, iaZ 22 22 20 21, ldZ 23 3 22, boZ 24 .neq 3 19 23 3]
def R2_SameInts_a6 : List (List Nat) := [[], [], [0, 1], [2], [], [], [4, 5], [6], [3, 7]]
def R2_SameInts_r7 : List SO := [rZ 4 (.assign (.const (.bool false)))]
def R2_SameInts_r8 : List SO := [bcZ 25 .add 3 13 1 3, mvZ 13 25]
def R2_SameInts_r9 : List SO := [rZ 4 (.assign (.const (.bool true)))]
def R2_SameInts_c : SF := ⟨26, (.seq (.reg R2_SameInts_r0)
  (.seq (.seq (.reg R2_SameInts_r1)
  (.cond (tZ 10) (.seq (.reg R2_SameInts_r2)
  .ret) .skip))
  (.seq (.seq (.reg R2_SameInts_r3)
  (.block 0 (.loop (.seq (.reg R2_SameInts_r4)
  (.seq (.cond (tZ 14) .skip (.exit 0))
  (.seq (.block 1 (.seq (.reg R2_SameInts_r5)
  (.seq (.regd R2_SameInts_r6 R2_SameInts_a6)
  (.cond (tZ 24) (.seq (.reg R2_SameInts_r7)
  .ret) .skip))))
  (.reg R2_SameInts_r8)))))))
  (.seq (.reg R2_SameInts_r9)
  .ret)))), [.tmp 4]⟩
theorem R2_SameInts_s : slimF Try.prog 27 = some R2_SameInts_c := by kernel_rfl
abbrev R2_SameInts_f : Nat := 27

end Go.Proofs.Ytbaepacihkgalaa
