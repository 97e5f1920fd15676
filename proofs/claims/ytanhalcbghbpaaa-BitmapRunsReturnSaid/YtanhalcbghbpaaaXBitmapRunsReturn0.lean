/- Printed by program: the functions' code in few words; the kernel checks it against the translation. -/
import Derived.Test.YtanhalcbghbpaaaRows
import Derived.Test.YtanhalcbghbpaaaLiteTP
namespace Go.Proofs.Ytanhalcbghbpaaa
open Go Go.Lite
set_option linter.unusedVariables false

/-- Bool -/
abbrev Eo : Nat := 0
/-- Int -/
abbrev Ei : Nat := 1
/-- Int -/
abbrev Ey : Nat := 2
/-- Int × Int × List (Int) -/
abbrev E2iLyJ : Nat := 3
/-- Int × Int -/
abbrev E2i : Nat := 4
/-- Int × Int × Int -/
abbrev E3i : Nat := 5
/-- Int × Int × Int × Int × Int -/
abbrev E5i : Nat := 6
/-- Int × Int × Int × Int -/
abbrev E4i : Nat := 7
/-- Int × Int × Int × Int × Int × Int -/
abbrev E6i : Nat := 8
@[reducible] def A (e : Nat) : Type := match e with
  | 0 => Bool
  | 1 => Int
  | 2 => Int
  | 3 => Int × Int × List (Int)
  | 4 => Int × Int
  | 5 => Int × Int × Int
  | 6 => Int × Int × Int × Int × Int
  | 7 => Int × Int × Int × Int
  | 8 => Int × Int × Int × Int × Int × Int
  | _ => Unit
def eSz (e : Nat) : Nat := match e with
  | 0 => 1
  | 1 => 1
  | 2 => 1
  | 3 => 3
  | 4 => 2
  | 5 => 3
  | 6 => 5
  | 7 => 4
  | 8 => 6
  | _ => 1
def eD (e : Nat) : A e := match e with
  | 0 => false
  | 1 => (0 : Int)
  | 2 => (0 : Int)
  | 3 => ((0 : Int), (0 : Int), ([] : List (Int)))
  | 4 => ((0 : Int), (0 : Int))
  | 5 => ((0 : Int), (0 : Int), (0 : Int))
  | 6 => ((0 : Int), (0 : Int), (0 : Int), (0 : Int), (0 : Int))
  | 7 => ((0 : Int), (0 : Int), (0 : Int), (0 : Int))
  | 8 => ((0 : Int), (0 : Int), (0 : Int), (0 : Int), (0 : Int), (0 : Int))
  | _ + 9 => ()
def encL0 (x : Bool) : List LV := [.bool (x)]
def enc0 (x : Bool) : List (TV A) := [.bool (x)]
def dec0 (cs : List (TV A)) : Option (Bool) := match cs with
  | [.bool x0] => some x0
  | _ => none
def encL1 (x : Int) : List LV := [.int .i64 (x)]
def enc1 (x : Int) : List (TV A) := [.int .i64 (x)]
def dec1 (cs : List (TV A)) : Option (Int) := match cs with
  | [.int .i64 x0] => some x0
  | _ => none
def encL2 (x : Int) : List LV := [.int .u8 (x)]
def enc2 (x : Int) : List (TV A) := [.int .u8 (x)]
def dec2 (cs : List (TV A)) : Option (Int) := match cs with
  | [.int .u8 x0] => some x0
  | _ => none
def encL3 (x : Int × Int × List (Int)) : List LV := [.int .i64 (x.1), .int .i64 (x.2.1), .ps 1 (List.length (x.2.2)) (List.flatMap encL2 (x.2.2))]
def enc3 (x : Int × Int × List (Int)) : List (TV A) := [.int .i64 (x.1), .int .i64 (x.2.1), .lst 2 (x.2.2)]
def dec3 (cs : List (TV A)) : Option (Int × Int × List (Int)) := match cs with
  | [.int .i64 x0, .int .i64 x1, .lst 2 x2] => some (x0, x1, x2)
  | _ => none
def encL4 (x : Int × Int) : List LV := [.int .i64 (x.1), .int .i64 (x.2)]
def enc4 (x : Int × Int) : List (TV A) := [.int .i64 (x.1), .int .i64 (x.2)]
def dec4 (cs : List (TV A)) : Option (Int × Int) := match cs with
  | [.int .i64 x0, .int .i64 x1] => some (x0, x1)
  | _ => none
def encL5 (x : Int × Int × Int) : List LV := [.int .i64 (x.1), .int .i64 (x.2.1), .int .i64 (x.2.2)]
def enc5 (x : Int × Int × Int) : List (TV A) := [.int .i64 (x.1), .int .i64 (x.2.1), .int .i64 (x.2.2)]
def dec5 (cs : List (TV A)) : Option (Int × Int × Int) := match cs with
  | [.int .i64 x0, .int .i64 x1, .int .i64 x2] => some (x0, x1, x2)
  | _ => none
def encL6 (x : Int × Int × Int × Int × Int) : List LV := [.int .i64 (x.1), .int .i64 (x.2.1), .int .i64 (x.2.2.1), .int .i64 (x.2.2.2.1), .int .i64 (x.2.2.2.2)]
def enc6 (x : Int × Int × Int × Int × Int) : List (TV A) := [.int .i64 (x.1), .int .i64 (x.2.1), .int .i64 (x.2.2.1), .int .i64 (x.2.2.2.1), .int .i64 (x.2.2.2.2)]
def dec6 (cs : List (TV A)) : Option (Int × Int × Int × Int × Int) := match cs with
  | [.int .i64 x0, .int .i64 x1, .int .i64 x2, .int .i64 x3, .int .i64 x4] => some (x0, x1, x2, x3, x4)
  | _ => none
def encL7 (x : Int × Int × Int × Int) : List LV := [.int .i64 (x.1), .int .i64 (x.2.1), .int .i64 (x.2.2.1), .int .i64 (x.2.2.2)]
def enc7 (x : Int × Int × Int × Int) : List (TV A) := [.int .i64 (x.1), .int .i64 (x.2.1), .int .i64 (x.2.2.1), .int .i64 (x.2.2.2)]
def dec7 (cs : List (TV A)) : Option (Int × Int × Int × Int) := match cs with
  | [.int .i64 x0, .int .i64 x1, .int .i64 x2, .int .i64 x3] => some (x0, x1, x2, x3)
  | _ => none
def encL8 (x : Int × Int × Int × Int × Int × Int) : List LV := [.int .i64 (x.1), .int .i64 (x.2.1), .int .i64 (x.2.2.1), .int .i64 (x.2.2.2.1), .int .i64 (x.2.2.2.2.1), .int .i64 (x.2.2.2.2.2)]
def enc8 (x : Int × Int × Int × Int × Int × Int) : List (TV A) := [.int .i64 (x.1), .int .i64 (x.2.1), .int .i64 (x.2.2.1), .int .i64 (x.2.2.2.1), .int .i64 (x.2.2.2.2.1), .int .i64 (x.2.2.2.2.2)]
def dec8 (cs : List (TV A)) : Option (Int × Int × Int × Int × Int × Int) := match cs with
  | [.int .i64 x0, .int .i64 x1, .int .i64 x2, .int .i64 x3, .int .i64 x4, .int .i64 x5] => some (x0, x1, x2, x3, x4, x5)
  | _ => none
def eEncL (e : Nat) (a : A e) : List LV := match e, a with
  | 0, a => encL0 a
  | 1, a => encL1 a
  | 2, a => encL2 a
  | 3, a => encL3 a
  | 4, a => encL4 a
  | 5, a => encL5 a
  | 6, a => encL6 a
  | 7, a => encL7 a
  | 8, a => encL8 a
  | _ + 9, _ => [.nilp]
def eEnc (e : Nat) (a : A e) : List (TV A) := match e, a with
  | 0, a => enc0 a
  | 1, a => enc1 a
  | 2, a => enc2 a
  | 3, a => enc3 a
  | 4, a => enc4 a
  | 5, a => enc5 a
  | 6, a => enc6 a
  | 7, a => enc7 a
  | 8, a => enc8 a
  | _ + 9, _ => [.nilp]
def eDec (e : Nat) (cs : List (TV A)) : Option (A e) := match e with
  | 0 => dec0 cs
  | 1 => dec1 cs
  | 2 => dec2 cs
  | 3 => dec3 cs
  | 4 => dec4 cs
  | 5 => dec5 cs
  | 6 => dec6 cs
  | 7 => dec7 cs
  | 8 => dec8 cs
  | _ + 9 => none
def eEl (t : Nat) : Option Nat := match t with
  | 25 => some 0
  | 22 => some 1
  | 38 => some 3
  | 35 => some 4
  | 60 => some 5
  | 26 => some 2
  | 74 => some 6
  | 77 => some 3
  | 82 => some 7
  | 106 => some 8
  | _ => none
def fl (e : Nat) : Bool := match e with
  | 0 => true
  | 1 => true
  | 2 => true
  | 3 => false
  | 4 => true
  | 5 => true
  | 6 => true
  | 7 => true
  | 8 => true
  | _ => false
def eByt (e : Nat) : Option (List (A e) → List Int) := match e with
  | 2 => some fun xs => xs
  | _ => none
theorem flat1 : ∀ xs : List Int, xs.flatMap (fun x => [LV.int .u8 x]) = xs.map (LV.int .u8)
  | [] => rfl
  | x :: r => congrArg (LV.int .u8 x :: ·) (flat1 r)
def R : Reg A := ⟨eSz, eD, eEncL, eEnc, eDec, eEl, eByt⟩
theorem R_ok : R.Ok where
  pos e := by show 0 < eSz e; unfold eSz; split <;> decide
  len e a := match e, a with
    | 0, a => rfl
    | 1, a => rfl
    | 2, a => rfl
    | 3, a => rfl
    | 4, a => rfl
    | 5, a => rfl
    | 6, a => rfl
    | 7, a => rfl
    | 8, a => rfl
    | e + 9, a => rfl
  ok e a := match e, a with
    | 0, a => rfl
    | 1, a => rfl
    | 2, a => rfl
    | 3, a => rfl
    | 4, a => rfl
    | 5, a => rfl
    | 6, a => rfl
    | 7, a => rfl
    | 8, a => rfl
    | e + 9, a => rfl
  dec e cs a h := match e, a, h with
    | 0, a, h => by
      replace h : dec0 cs = some a := h
      unfold dec0 at h
      split at h
      · cases h; rfl
      · cases h
    | 1, a, h => by
      replace h : dec1 cs = some a := h
      unfold dec1 at h
      split at h
      · cases h; rfl
      · cases h
    | 2, a, h => by
      replace h : dec2 cs = some a := h
      unfold dec2 at h
      split at h
      · cases h; rfl
      · cases h
    | 3, a, h => by
      replace h : dec3 cs = some a := h
      unfold dec3 at h
      split at h
      · cases h; rfl
      · cases h
    | 4, a, h => by
      replace h : dec4 cs = some a := h
      unfold dec4 at h
      split at h
      · cases h; rfl
      · cases h
    | 5, a, h => by
      replace h : dec5 cs = some a := h
      unfold dec5 at h
      split at h
      · cases h; rfl
      · cases h
    | 6, a, h => by
      replace h : dec6 cs = some a := h
      unfold dec6 at h
      split at h
      · cases h; rfl
      · cases h
    | 7, a, h => by
      replace h : dec7 cs = some a := h
      unfold dec7 at h
      split at h
      · cases h; rfl
      · cases h
    | 8, a, h => by
      replace h : dec8 cs = some a := h
      unfold dec8 at h
      split at h
      · cases h; rfl
      · cases h
    | e + 9, a, h => by cases h
  free e a := match e, a with
    | 0, a => rfl
    | 1, a => rfl
    | 2, a => rfl
    | 3, a => rfl
    | 4, a => rfl
    | 5, a => rfl
    | 6, a => rfl
    | 7, a => rfl
    | 8, a => rfl
    | e + 9, a => rfl
  sol e a := match e, a with
    | 0, a => rfl
    | 1, a => rfl
    | 2, a => rfl
    | 3, a => rfl
    | 4, a => rfl
    | 5, a => rfl
    | 6, a => rfl
    | 7, a => rfl
    | 8, a => rfl
    | e + 9, a => rfl
  byt e f h xs := match e, f, h with
    | 0, f, h => by cases h
    | 1, f, h => by cases h
    | 2, f, h => by cases h; exact flat1 xs
    | 3, f, h => by cases h
    | 4, f, h => by cases h
    | 5, f, h => by cases h
    | 6, f, h => by cases h
    | 7, f, h => by cases h
    | 8, f, h => by cases h
    | e + 9, f, h => by cases h
theorem fl_ok : ∀ e, fl e = true → ∀ a, psfreeL (R.encL e a) = true := fun e h a => match e, h, a with
  | 0, h, a => rfl
  | 1, h, a => rfl
  | 2, h, a => rfl
  | 3, h, a => by cases h
  | 4, h, a => rfl
  | 5, h, a => rfl
  | 6, h, a => rfl
  | 7, h, a => rfl
  | 8, h, a => rfl
  | e + 9, h, a => rfl

def tyL : List (Nat × TI) := [(0, ⟨.other, 1, false, [.dead]⟩),
  (3, ⟨.int .i64, 1, false, [.int .i64 0]⟩),
  (25, ⟨.slice 1 1 [.bool false], 1, false, [.nils]⟩),
  (4, ⟨.bool, 1, false, [.bool false]⟩),
  (22, ⟨.slice 1 8 [.int .i64 0], 1, false, [.nils]⟩),
  (28, ⟨.struct [(0, 1, false), (1, 1, false), (2, 1, false)], 3, true, [.int .i64 0, .int .i64 0, .nils]⟩),
  (31, ⟨.struct [(0, 1, false), (1, 1, false)], 2, true, [.int .i64 0, .int .i64 0]⟩),
  (38, ⟨.slice 3 40 [.int .i64 0, .int .i64 0, .nils], 1, false, [.nils]⟩),
  (32, ⟨.int .i64, 1, false, [.int .i64 0]⟩),
  (35, ⟨.slice 2 16 [.int .i64 0, .int .i64 0], 1, false, [.nils]⟩),
  (47, ⟨.struct [(0, 1, false), (1, 1, false), (2, 1, false)], 3, true, [.int .i64 0, .int .i64 0, .nils]⟩),
  (9, ⟨.str, 1, false, [.str ⟨([] : List UInt8).toArray⟩]⟩),
  (60, ⟨.slice 3 24 [.int .i64 0, .int .i64 0, .int .i64 0], 1, false, [.nils]⟩),
  (66, ⟨.struct [(0, 1, false), (1, 1, false), (2, 1, false)], 3, true, [.int .i64 0, .int .i64 0, .int .i64 0]⟩),
  (26, ⟨.slice 1 1 [.int .u8 0], 1, false, [.nils]⟩),
  (74, ⟨.slice 5 40 [.int .i64 0, .int .i64 0, .int .i64 0, .int .i64 0, .int .i64 0], 1, false, [.nils]⟩),
  (77, ⟨.slice 3 40 [.int .i64 0, .int .i64 0, .nils], 1, false, [.nils]⟩),
  (80, ⟨.struct [(0, 1, false), (1, 1, false), (2, 1, false)], 3, true, [.int .i64 0, .int .i64 0, .nils]⟩),
  (82, ⟨.slice 4 32 [.int .i64 0, .int .i64 0, .int .i64 0, .int .i64 0], 1, false, [.nils]⟩),
  (86, ⟨.struct [(0, 1, false), (1, 1, false), (2, 1, false), (3, 1, false)], 4, true, [.int .i64 0, .int .i64 0, .int .i64 0, .int .i64 0]⟩),
  (94, ⟨.struct [(0, 1, false), (1, 1, false), (2, 1, false), (3, 1, false), (4, 1, false)], 5, true, [.int .i64 0, .int .i64 0, .int .i64 0, .int .i64 0, .int .i64 0]⟩),
  (5, ⟨.int .u8, 1, false, [.int .u8 0]⟩),
  (97, ⟨.other, 1, false, [.nilp]⟩),
  (105, ⟨.other, 1, false, [.nilp]⟩),
  (106, ⟨.slice 6 48 [.int .i64 0, .int .i64 0, .int .i64 0, .int .i64 0, .int .i64 0, .int .i64 0], 1, false, [.nils]⟩),
  (108, ⟨.arr 6 1 false, 6, true, [.int .i64 0, .int .i64 0, .int .i64 0, .int .i64 0, .int .i64 0, .int .i64 0]⟩),
  (118, ⟨.other, 1, false, [.nilf]⟩),
  (123, ⟨.other, 1, false, [.nilf]⟩),
  (126, ⟨.other, 1, false, [.nilf]⟩),
  (127, ⟨.arr 4 1 false, 4, true, [.int .i64 0, .int .i64 0, .int .i64 0, .int .i64 0]⟩),
  (128, ⟨.other, 1, false, [.nilf]⟩)]
theorem tyL_ok : okL (tiOf Try.prog) tyL := ⟨by kernel_rfl, by kernel_rfl, by kernel_rfl, by kernel_rfl, by kernel_rfl, by kernel_rfl, by kernel_rfl, by kernel_rfl, by kernel_rfl, by kernel_rfl, by kernel_rfl, by kernel_rfl, by kernel_rfl, by kernel_rfl, by kernel_rfl, by kernel_rfl, by kernel_rfl, by kernel_rfl, by kernel_rfl, by kernel_rfl, by kernel_rfl, by kernel_rfl, by kernel_rfl, by kernel_rfl, by kernel_rfl, by kernel_rfl, by kernel_rfl, by kernel_rfl, by kernel_rfl, by kernel_rfl, by kernel_rfl, trivial⟩
def eqL : List (Nat × List Nat) := [(31, [0, 0]), (86, [0, 0, 0, 0]), (94, [0, 0, 0, 0, 0]), (66, [0, 0, 0])]
theorem eqL_ok : okL (eqOf Try.prog) eqL := ⟨by kernel_rfl, by kernel_rfl, by kernel_rfl, by kernel_rfl, trivial⟩
def nlL : List (Nat × Nat) := [(32, 0), (31, 0), (3, 0), (9, 0), (86, 0), (94, 0), (4, 0), (66, 0), (5, 0), (26, 3)]
theorem nlL_ok : okN (nilOf Try.prog) nlL := ⟨by kernel_rfl, by kernel_rfl, by kernel_rfl, by kernel_rfl, by kernel_rfl, by kernel_rfl, by kernel_rfl, by kernel_rfl, by kernel_rfl, by kernel_rfl, trivial⟩
noncomputable def ty : TT := ⟨lookT tyL (tiOf Try.prog), lookT eqL (eqOf Try.prog), lookN nlL (nilOf Try.prog)⟩
theorem ty_ok : ty = ttOf Try.prog := by
  unfold ty ttOf
  rw [lookT_eq tyL_ok, lookT_eq eqL_ok, lookN_eq nlL_ok]
def Wo (x : Bool) : Prop := True
def Wi (x : Int) : Prop := rng .i64 x
def Wy (x : Int) : Prop := rng .u8 x
def W2iLyJ (x : Int × Int × List (Int)) : Prop := rng .i64 x.1 ∧ rng .i64 x.2.1 ∧ (List.length x.2.2 ≤ 9223372036854775807 ∧ ∀ y ∈ x.2.2, Wy y)
def W2i (x : Int × Int) : Prop := rng .i64 x.1 ∧ rng .i64 x.2
def W3i (x : Int × Int × Int) : Prop := rng .i64 x.1 ∧ rng .i64 x.2.1 ∧ rng .i64 x.2.2
def W5i (x : Int × Int × Int × Int × Int) : Prop := rng .i64 x.1 ∧ rng .i64 x.2.1 ∧ rng .i64 x.2.2.1 ∧ rng .i64 x.2.2.2.1 ∧ rng .i64 x.2.2.2.2
def W4i (x : Int × Int × Int × Int) : Prop := rng .i64 x.1 ∧ rng .i64 x.2.1 ∧ rng .i64 x.2.2.1 ∧ rng .i64 x.2.2.2
def W6i (x : Int × Int × Int × Int × Int × Int) : Prop := rng .i64 x.1 ∧ rng .i64 x.2.1 ∧ rng .i64 x.2.2.1 ∧ rng .i64 x.2.2.2.1 ∧ rng .i64 x.2.2.2.2.1 ∧ rng .i64 x.2.2.2.2.2
theorem rdo : R.d Eo = false := rfl
theorem rdi : R.d Ei = (0 : Int) := rfl
theorem rdy : R.d Ey = (0 : Int) := rfl
theorem rd2iLyJ : R.d E2iLyJ = ((0 : Int), (0 : Int), ([] : List (Int))) := rfl
theorem rd2i : R.d E2i = ((0 : Int), (0 : Int)) := rfl
theorem rd3i : R.d E3i = ((0 : Int), (0 : Int), (0 : Int)) := rfl
theorem rd5i : R.d E5i = ((0 : Int), (0 : Int), (0 : Int), (0 : Int), (0 : Int)) := rfl
theorem rd4i : R.d E4i = ((0 : Int), (0 : Int), (0 : Int), (0 : Int)) := rfl
theorem rd6i : R.d E6i = ((0 : Int), (0 : Int), (0 : Int), (0 : Int), (0 : Int), (0 : Int)) := rfl
theorem env : Env A R Try.prog ty fl := ⟨R_ok, ty_ok, fl_ok, by kernel_rfl⟩

end Go.Proofs.Ytanhalcbghbpaaa
namespace Go.Proofs.Ytanhalcbghbpaaa
open Go Go.Lite
set_option linter.unusedVariables false

/-- printworks/bitmap.Turn -/
def bitmap_Turn_r0 : List SO := [⟨(some 2), .box 28 (.tmp (0 : Nat)), none⟩,
  ⟨(some 4), .alloc 28, none⟩,
  ⟨(some 5), .assign (.const (.int .i64 0)), none⟩]
def bitmap_Turn_r1 : List SO := [⟨(some 7), .load 28 (.tmp (2 : Nat)), none⟩,
  ⟨(some 8), .call ⟨(.value (.func (22 : Nat))), #[(.tmp (7 : Nat))], #[28]⟩, none⟩,
  ⟨(some 6), .assign (.tmp (8 : Nat)), none⟩]
def bitmap_Turn_r2 : List SO := [⟨(some 9), .move (.tmp (6 : Nat)), none⟩,
  ⟨(some 10), .binOp .neq 32 (.tmp (9 : Nat)) (.const (.int .i64 0)) 32, none⟩]
def bitmap_Turn_r3 : List SO := [⟨(some 11), .build 28 #[], none⟩,
  ⟨(some 12), .move (.tmp (6 : Nat)), none⟩,
  ⟨none, .store 28 (.tmp (4 : Nat)) (.tmp (11 : Nat)), none⟩,
  ⟨(some 5), .assign (.tmp (12 : Nat)), none⟩]
def bitmap_Turn_r4 : List SO := [⟨(some 13), .move (.tmp (1 : Nat)), none⟩,
  ⟨(some 14), .binOp .lss 3 (.tmp (13 : Nat)) (.const (.int .i64 0)) 3, none⟩,
  ⟨(some 15), .move (.tmp (14 : Nat)), none⟩,
  ⟨(some 16), .move (.tmp (1 : Nat)), (some (15, false))⟩,
  ⟨(some 17), .binOp .gtr 3 (.tmp (16 : Nat)) (.const (.int .i64 7)) 3, (some (15, false))⟩,
  ⟨(some 18), .pick (.tmp (15 : Nat)) (.const (.bool true)) (.tmp (17 : Nat)), none⟩]
def bitmap_Turn_r5 : List SO := [⟨(some 19), .build 28 #[], none⟩,
  ⟨none, .store 28 (.tmp (4 : Nat)) (.tmp (19 : Nat)), none⟩,
  ⟨(some 5), .assign (.const (.int .i64 3)), none⟩]
def bitmap_Turn_r6 : List SO := [⟨(some 20), .move (.tmp (1 : Nat)), none⟩,
  ⟨(some 21), .call ⟨(.value (.func (55 : Nat))), #[(.tmp (2 : Nat)), (.tmp (20 : Nat))], #[97, 3]⟩, none⟩,
  ⟨none, .store 28 (.tmp (4 : Nat)) (.tmp (21 : Nat)), none⟩,
  ⟨(some 5), .assign (.const (.int .i64 0)), none⟩]
def bitmap_Turn_c : SF := ⟨22, (.seq (.reg bitmap_Turn_r0)
  (.seq (.seq (.reg bitmap_Turn_r1)
  (.seq (.reg bitmap_Turn_r2)
  (.cond (.tmp (10 : Nat)) (.seq (.reg bitmap_Turn_r3)
  .ret) .skip)))
  (.seq (.seq (.reg bitmap_Turn_r4)
  (.cond (.tmp (18 : Nat)) (.seq (.reg bitmap_Turn_r5)
  .ret) .skip))
  (.seq (.reg bitmap_Turn_r6)
  .ret)))), [.cell 4 28, .tmp 5]⟩
theorem bitmap_Turn_s : slimF Try.prog 21 = some bitmap_Turn_c := by kernel_rfl
abbrev bitmap_Turn_f : Nat := 21
/-- printworks/bitmap.Check -/
def bitmap_Check_r0 : List SO := [⟨(some 1), .box 28 (.tmp (0 : Nat)), none⟩,
  ⟨(some 2), .assign (.const (.int .i64 0)), none⟩]
def bitmap_Check_r1 : List SO := [⟨(some 6), .fieldAddr 28 (.tmp (1 : Nat)) 0, none⟩,
  ⟨(some 7), .load 3 (.tmp (6 : Nat)), none⟩,
  ⟨(some 8), .binOp .lss 3 (.tmp (7 : Nat)) (.const (.int .i64 1)) 3, none⟩,
  ⟨(some 9), .move (.tmp (8 : Nat)), none⟩,
  ⟨(some 10), .fieldAddr 28 (.tmp (1 : Nat)) 0, (some (9, false))⟩,
  ⟨(some 11), .load 3 (.tmp (10 : Nat)), (some (9, false))⟩,
  ⟨(some 12), .binOp .gtr 3 (.tmp (11 : Nat)) (.const (.int .i64 1024)) 3, (some (9, false))⟩,
  ⟨(some 13), .pick (.tmp (9 : Nat)) (.const (.bool true)) (.tmp (12 : Nat)), none⟩,
  ⟨(some 14), .move (.tmp (13 : Nat)), none⟩,
  ⟨(some 15), .fieldAddr 28 (.tmp (1 : Nat)) 1, (some (14, false))⟩,
  ⟨(some 16), .load 3 (.tmp (15 : Nat)), (some (14, false))⟩,
  ⟨(some 17), .binOp .lss 3 (.tmp (16 : Nat)) (.const (.int .i64 1)) 3, (some (14, false))⟩,
  ⟨(some 18), .pick (.tmp (14 : Nat)) (.const (.bool true)) (.tmp (17 : Nat)), none⟩,
  ⟨(some 19), .move (.tmp (18 : Nat)), none⟩,
  ⟨(some 20), .fieldAddr 28 (.tmp (1 : Nat)) 1, (some (19, false))⟩,
  ⟨(some 21), .load 3 (.tmp (20 : Nat)), (some (19, false))⟩,
  ⟨(some 22), .binOp .gtr 3 (.tmp (21 : Nat)) (.const (.int .i64 1024)) 3, (some (19, false))⟩,
  ⟨(some 23), .pick (.tmp (19 : Nat)) (.const (.bool true)) (.tmp (22 : Nat)), none⟩]
def bitmap_Check_r2 : List SO := [⟨(some 2), .assign (.const (.int .i64 3)), none⟩]
def bitmap_Check_r3 : List SO := [⟨(some 24), .fieldAddr 28 (.tmp (1 : Nat)) 0, none⟩,
  ⟨(some 25), .load 3 (.tmp (24 : Nat)), none⟩,
  ⟨(some 26), .call ⟨(.value (.func (56 : Nat))), #[(.tmp (25 : Nat))], #[3]⟩, none⟩,
  ⟨(some 3), .assign (.tmp (26 : Nat)), none⟩]
def bitmap_Check_r4 : List SO := [⟨(some 27), .fieldAddr 28 (.tmp (1 : Nat)) 2, none⟩,
  ⟨(some 28), .load 26 (.tmp (27 : Nat)), none⟩,
  ⟨(some 29), .call ⟨(.builtin .len), #[(.tmp (28 : Nat))], #[26]⟩, none⟩,
  ⟨(some 30), .move (.tmp (3 : Nat)), none⟩,
  ⟨(some 31), .fieldAddr 28 (.tmp (1 : Nat)) 1, none⟩,
  ⟨(some 32), .load 3 (.tmp (31 : Nat)), none⟩,
  ⟨(some 33), .binOp .mul 3 (.tmp (30 : Nat)) (.tmp (32 : Nat)) 3, none⟩,
  ⟨(some 34), .binOp .neq 3 (.tmp (29 : Nat)) (.tmp (33 : Nat)) 3, none⟩]
def bitmap_Check_r5 : List SO := [⟨(some 2), .assign (.const (.int .i64 4)), none⟩]
def bitmap_Check_r6 : List SO := [⟨(some 35), .move (.tmp (3 : Nat)), none⟩,
  ⟨(some 36), .binOp .mul 3 (.const (.int .i64 8)) (.tmp (35 : Nat)) 3, none⟩,
  ⟨(some 37), .fieldAddr 28 (.tmp (1 : Nat)) 0, none⟩,
  ⟨(some 38), .load 3 (.tmp (37 : Nat)), none⟩,
  ⟨(some 39), .binOp .sub 3 (.tmp (36 : Nat)) (.tmp (38 : Nat)) 3, none⟩,
  ⟨(some 40), .binOp .shl 5 (.const (.int .u8 1)) (.tmp (39 : Nat)) 3, none⟩,
  ⟨(some 41), .binOp .sub 5 (.tmp (40 : Nat)) (.const (.int .u8 1)) 5, none⟩,
  ⟨(some 4), .assign (.tmp (41 : Nat)), none⟩]
def bitmap_Check_r7 : List SO := [⟨(some 42), .move (.tmp (4 : Nat)), none⟩,
  ⟨(some 43), .binOp .neq 5 (.tmp (42 : Nat)) (.const (.int .u8 0)) 5, none⟩]
def bitmap_Check_r8 : List SO := [⟨(some 44), .fieldAddr 28 (.tmp (1 : Nat)) 1, none⟩,
  ⟨(some 45), .load 3 (.tmp (44 : Nat)), none⟩,
  ⟨(some 46), .move (.const (.int .i64 0)), none⟩]
def bitmap_Check_r9 : List SO := [⟨(some 47), .binOp .lss 3 (.tmp (46 : Nat)) (.tmp (45 : Nat)) 3, none⟩]
def bitmap_Check_r10 : List SO := [⟨(some 48), .move (.tmp (46 : Nat)), none⟩,
  ⟨(some 5), .assign (.tmp (48 : Nat)), none⟩]
def bitmap_Check_r11 : List SO := [⟨(some 49), .fieldAddr 28 (.tmp (1 : Nat)) 2, none⟩,
  ⟨(some 50), .load 26 (.tmp (49 : Nat)), none⟩,
  ⟨(some 51), .move (.tmp (5 : Nat)), none⟩,
  ⟨(some 52), .move (.tmp (3 : Nat)), none⟩,
  ⟨(some 53), .binOp .mul 3 (.tmp (51 : Nat)) (.tmp (52 : Nat)) 3, none⟩,
  ⟨(some 54), .move (.tmp (3 : Nat)), none⟩,
  ⟨(some 55), .binOp .add 3 (.tmp (53 : Nat)) (.tmp (54 : Nat)) 3, none⟩,
  ⟨(some 56), .binOp .sub 3 (.tmp (55 : Nat)) (.const (.int .i64 1)) 3, none⟩,
  ⟨(some 57), .indexAddr 26 (.tmp (50 : Nat)) (.tmp (56 : Nat)), none⟩,
  ⟨(some 58), .load 5 (.tmp (57 : Nat)), none⟩,
  ⟨(some 59), .move (.tmp (4 : Nat)), none⟩,
  ⟨(some 60), .binOp .and 5 (.tmp (58 : Nat)) (.tmp (59 : Nat)) 5, none⟩,
  ⟨(some 61), .binOp .neq 5 (.tmp (60 : Nat)) (.const (.int .u8 0)) 5, none⟩]
def bitmap_Check_r12 : List SO := [⟨(some 2), .assign (.const (.int .i64 4)), none⟩]
def bitmap_Check_r13 : List SO := [⟨(some 62), .binOp .add 3 (.tmp (46 : Nat)) (.const (.int .i64 1)) 3, none⟩,
  ⟨(some 46), .move (.tmp (62 : Nat)), none⟩]
def bitmap_Check_r14 : List SO := [⟨(some 2), .assign (.const (.int .i64 0)), none⟩]
def bitmap_Check_c : SF := ⟨63, (.seq (.reg bitmap_Check_r0)
  (.seq (.seq (.reg bitmap_Check_r1)
  (.cond (.tmp (23 : Nat)) (.seq (.reg bitmap_Check_r2)
  .ret) .skip))
  (.seq (.reg bitmap_Check_r3)
  (.seq (.seq (.reg bitmap_Check_r4)
  (.cond (.tmp (34 : Nat)) (.seq (.reg bitmap_Check_r5)
  .ret) .skip))
  (.seq (.seq (.reg bitmap_Check_r6)
  (.seq (.reg bitmap_Check_r7)
  (.cond (.tmp (43 : Nat)) (.seq (.reg bitmap_Check_r8)
  (.block 0 (.loop (.seq (.reg bitmap_Check_r9)
  (.seq (.cond (.tmp (47 : Nat)) .skip (.exit 0))
  (.seq (.block 1 (.seq (.reg bitmap_Check_r10)
  (.seq (.reg bitmap_Check_r11)
  (.cond (.tmp (61 : Nat)) (.seq (.reg bitmap_Check_r12)
  .ret) .skip))))
  (.reg bitmap_Check_r13))))))) .skip)))
  (.seq (.reg bitmap_Check_r14)
  .ret)))))), [.tmp 2]⟩
theorem bitmap_Check_s : slimF Try.prog 22 = some bitmap_Check_c := by kernel_rfl
abbrev bitmap_Check_f : Nat := 22
/-- printworks/bitmap.Runs -/
def bitmap_Runs_r0 : List SO := [⟨(some 1), .box 28 (.tmp (0 : Nat)), none⟩,
  ⟨(some 2), .assign (.const (.slice none 0 0)), none⟩,
  ⟨(some 3), .assign (.const (.int .i64 0)), none⟩]
def bitmap_Runs_r1 : List SO := [⟨(some 8), .load 28 (.tmp (1 : Nat)), none⟩,
  ⟨(some 9), .call ⟨(.value (.func (22 : Nat))), #[(.tmp (8 : Nat))], #[28]⟩, none⟩,
  ⟨(some 4), .assign (.tmp (9 : Nat)), none⟩]
def bitmap_Runs_r2 : List SO := [⟨(some 10), .move (.tmp (4 : Nat)), none⟩,
  ⟨(some 11), .binOp .neq 32 (.tmp (10 : Nat)) (.const (.int .i64 0)) 32, none⟩]
def bitmap_Runs_r3 : List SO := [⟨(some 12), .move (.tmp (4 : Nat)), none⟩,
  ⟨(some 2), .assign (.const (.slice none 0 0)), none⟩,
  ⟨(some 3), .assign (.tmp (12 : Nat)), none⟩]
def bitmap_Runs_r4 : List SO := [⟨(some 5), .alloc 60, none⟩]
def bitmap_Runs_r5 : List SO := [⟨(some 13), .fieldAddr 28 (.tmp (1 : Nat)) 1, none⟩,
  ⟨(some 14), .load 3 (.tmp (13 : Nat)), none⟩,
  ⟨(some 15), .move (.const (.int .i64 0)), none⟩]
def bitmap_Runs_r6 : List SO := [⟨(some 16), .binOp .lss 3 (.tmp (15 : Nat)) (.tmp (14 : Nat)) 3, none⟩]
def bitmap_Runs_r7 : List SO := [⟨(some 17), .move (.tmp (15 : Nat)), none⟩,
  ⟨(some 6), .assign (.tmp (17 : Nat)), none⟩]
def bitmap_Runs_r8 : List SO := [⟨(some 18), .move (.tmp (6 : Nat)), none⟩,
  ⟨(some 19), .call ⟨(.value (.func (65 : Nat))), #[(.tmp (1 : Nat)), (.tmp (18 : Nat))], #[97, 3]⟩, none⟩]
def bitmap_Runs_r9 : List SO := [⟨(some 7), .alloc 66, none⟩,
  ⟨none, .store 66 (.tmp (7 : Nat)) (.tmp (20 : Nat)), none⟩]
def bitmap_Runs_r10 : List SO := [⟨(some 21), .load 60 (.tmp (5 : Nat)), none⟩,
  ⟨(some 22), .load 66 (.tmp (7 : Nat)), none⟩,
  ⟨(some 23), .buildSlice 60 1 #[(0, (.tmp (22 : Nat)))], none⟩,
  ⟨(some 24), .call ⟨(.builtin .append), #[(.tmp (21 : Nat)), (.tmp (23 : Nat))], #[60, 60]⟩, none⟩,
  ⟨none, .store 60 (.tmp (5 : Nat)) (.tmp (24 : Nat)), none⟩]
def bitmap_Runs_r11 : List SO := [⟨(some 25), .binOp .add 3 (.tmp (15 : Nat)) (.const (.int .i64 1)) 3, none⟩,
  ⟨(some 15), .move (.tmp (25 : Nat)), none⟩]
def bitmap_Runs_r12 : List SO := [⟨(some 26), .load 60 (.tmp (5 : Nat)), none⟩,
  ⟨(some 2), .assign (.tmp (26 : Nat)), none⟩,
  ⟨(some 3), .assign (.const (.int .i64 0)), none⟩]
def bitmap_Runs_c : SF := ⟨27, (.seq (.reg bitmap_Runs_r0)
  (.seq (.seq (.reg bitmap_Runs_r1)
  (.seq (.reg bitmap_Runs_r2)
  (.cond (.tmp (11 : Nat)) (.seq (.reg bitmap_Runs_r3)
  .ret) .skip)))
  (.seq (.reg bitmap_Runs_r4)
  (.seq (.seq (.reg bitmap_Runs_r5)
  (.block 0 (.loop (.seq (.reg bitmap_Runs_r6)
  (.seq (.cond (.tmp (16 : Nat)) .skip (.exit 0))
  (.seq (.block 1 (.seq (.reg bitmap_Runs_r7)
  (.seq (.reg bitmap_Runs_r8)
  (.block 2 (.rf (.tmp (19 : Nat)) [20] (.reg bitmap_Runs_r9) (.block 3 (.reg bitmap_Runs_r10)))))))
  (.reg bitmap_Runs_r11)))))))
  (.seq (.reg bitmap_Runs_r12)
  .ret))))), [.tmp 2, .tmp 3]⟩
theorem bitmap_Runs_s : slimF Try.prog 33 = some bitmap_Runs_c := by kernel_rfl
abbrev bitmap_Runs_f : Nat := 33
/-- printworks/bitmap.Count -/
def bitmap_Count_r0 : List SO := [⟨(some 1), .box 28 (.tmp (0 : Nat)), none⟩,
  ⟨(some 2), .assign (.const (.int .i64 0)), none⟩,
  ⟨(some 3), .assign (.const (.int .i64 0)), none⟩]
def bitmap_Count_r1 : List SO := [⟨(some 8), .load 28 (.tmp (1 : Nat)), none⟩,
  ⟨(some 9), .call ⟨(.value (.func (22 : Nat))), #[(.tmp (8 : Nat))], #[28]⟩, none⟩,
  ⟨(some 4), .assign (.tmp (9 : Nat)), none⟩]
def bitmap_Count_r2 : List SO := [⟨(some 10), .move (.tmp (4 : Nat)), none⟩,
  ⟨(some 11), .binOp .neq 32 (.tmp (10 : Nat)) (.const (.int .i64 0)) 32, none⟩]
def bitmap_Count_r3 : List SO := [⟨(some 12), .move (.tmp (4 : Nat)), none⟩,
  ⟨(some 2), .assign (.const (.int .i64 0)), none⟩,
  ⟨(some 3), .assign (.tmp (12 : Nat)), none⟩]
def bitmap_Count_r4 : List SO := [⟨(some 5), .assign (.const (.int .i64 0)), none⟩]
def bitmap_Count_r5 : List SO := [⟨(some 13), .fieldAddr 28 (.tmp (1 : Nat)) 2, none⟩,
  ⟨(some 14), .load 26 (.tmp (13 : Nat)), none⟩,
  ⟨(some 15), .call ⟨(.builtin .len), #[(.tmp (14 : Nat))], #[26]⟩, none⟩,
  ⟨(some 16), .move (.const (.int .i64 0)), none⟩]
def bitmap_Count_r6 : List SO := [⟨(some 17), .binOp .lss 3 (.tmp (16 : Nat)) (.tmp (15 : Nat)) 3, none⟩]
def bitmap_Count_r7 : List SO := [⟨(some 18), .indexAddr 26 (.tmp (14 : Nat)) (.tmp (16 : Nat)), none⟩,
  ⟨(some 19), .load 5 (.tmp (18 : Nat)), none⟩,
  ⟨(some 7), .assign (.tmp (19 : Nat)), none⟩]
def bitmap_Count_r8 : List SO := [⟨(some 20), .move (.tmp (5 : Nat)), none⟩,
  ⟨(some 21), .move (.tmp (7 : Nat)), none⟩,
  ⟨(some 22), .call ⟨(.value (.func (66 : Nat))), #[(.tmp (21 : Nat))], #[5]⟩, none⟩,
  ⟨(some 23), .binOp .add 3 (.tmp (20 : Nat)) (.tmp (22 : Nat)) 3, none⟩,
  ⟨(some 5), .assign (.tmp (23 : Nat)), none⟩]
def bitmap_Count_r9 : List SO := [⟨(some 24), .binOp .add 3 (.tmp (16 : Nat)) (.const (.int .i64 1)) 3, none⟩,
  ⟨(some 16), .move (.tmp (24 : Nat)), none⟩]
def bitmap_Count_r10 : List SO := [⟨(some 25), .move (.tmp (5 : Nat)), none⟩,
  ⟨(some 2), .assign (.tmp (25 : Nat)), none⟩,
  ⟨(some 3), .assign (.const (.int .i64 0)), none⟩]
def bitmap_Count_c : SF := ⟨26, (.seq (.reg bitmap_Count_r0)
  (.seq (.seq (.reg bitmap_Count_r1)
  (.seq (.reg bitmap_Count_r2)
  (.cond (.tmp (11 : Nat)) (.seq (.reg bitmap_Count_r3)
  .ret) .skip)))
  (.seq (.reg bitmap_Count_r4)
  (.seq (.seq (.reg bitmap_Count_r5)
  (.block 0 (.loop (.seq (.reg bitmap_Count_r6)
  (.seq (.cond (.tmp (17 : Nat)) .skip (.exit 0))
  (.seq (.block 1 (.seq (.reg bitmap_Count_r7)
  (.reg bitmap_Count_r8)))
  (.reg bitmap_Count_r9)))))))
  (.seq (.reg bitmap_Count_r10)
  .ret))))), [.tmp 2, .tmp 3]⟩
theorem bitmap_Count_s : slimF Try.prog 34 = some bitmap_Count_c := by kernel_rfl
abbrev bitmap_Count_f : Nat := 34
/-- printworks/bitmap.FromRuns -/
def bitmap_FromRuns_r0 : List SO := [⟨(some 6), .alloc 28, none⟩,
  ⟨(some 7), .assign (.const (.int .i64 0)), none⟩]
def bitmap_FromRuns_r1 : List SO := [⟨(some 12), .move (.tmp (0 : Nat)), none⟩,
  ⟨(some 13), .binOp .lss 3 (.tmp (12 : Nat)) (.const (.int .i64 1)) 3, none⟩,
  ⟨(some 14), .move (.tmp (13 : Nat)), none⟩,
  ⟨(some 15), .move (.tmp (0 : Nat)), (some (14, false))⟩,
  ⟨(some 16), .binOp .gtr 3 (.tmp (15 : Nat)) (.const (.int .i64 1024)) 3, (some (14, false))⟩,
  ⟨(some 17), .pick (.tmp (14 : Nat)) (.const (.bool true)) (.tmp (16 : Nat)), none⟩,
  ⟨(some 18), .move (.tmp (17 : Nat)), none⟩,
  ⟨(some 19), .move (.tmp (1 : Nat)), (some (18, false))⟩,
  ⟨(some 20), .binOp .lss 3 (.tmp (19 : Nat)) (.const (.int .i64 1)) 3, (some (18, false))⟩,
  ⟨(some 21), .pick (.tmp (18 : Nat)) (.const (.bool true)) (.tmp (20 : Nat)), none⟩,
  ⟨(some 22), .move (.tmp (21 : Nat)), none⟩,
  ⟨(some 23), .move (.tmp (1 : Nat)), (some (22, false))⟩,
  ⟨(some 24), .binOp .gtr 3 (.tmp (23 : Nat)) (.const (.int .i64 1024)) 3, (some (22, false))⟩,
  ⟨(some 25), .pick (.tmp (22 : Nat)) (.const (.bool true)) (.tmp (24 : Nat)), none⟩]
def bitmap_FromRuns_r2 : List SO := [⟨(some 26), .build 28 #[], none⟩,
  ⟨none, .store 28 (.tmp (6 : Nat)) (.tmp (26 : Nat)), none⟩,
  ⟨(some 7), .assign (.const (.int .i64 3)), none⟩]
def bitmap_FromRuns_r3 : List SO := [⟨(some 27), .move (.tmp (0 : Nat)), none⟩,
  ⟨(some 28), .move (.tmp (1 : Nat)), none⟩,
  ⟨(some 29), .call ⟨(.value (.func (67 : Nat))), #[(.tmp (27 : Nat)), (.tmp (28 : Nat))], #[3, 3]⟩, none⟩,
  ⟨(some 8), .alloc 28, none⟩,
  ⟨none, .store 28 (.tmp (8 : Nat)) (.tmp (29 : Nat)), none⟩]
def bitmap_FromRuns_r4 : List SO := [⟨(some 30), .move (.tmp (2 : Nat)), none⟩,
  ⟨(some 31), .call ⟨(.builtin .len), #[(.tmp (30 : Nat))], #[60]⟩, none⟩,
  ⟨(some 32), .move (.const (.int .i64 0)), none⟩]
def bitmap_FromRuns_r5 : List SO := [⟨(some 33), .binOp .lss 3 (.tmp (32 : Nat)) (.tmp (31 : Nat)) 3, none⟩]
def bitmap_FromRuns_r6 : List SO := [⟨(some 34), .move (.tmp (32 : Nat)), none⟩,
  ⟨(some 35), .indexAddr 60 (.tmp (30 : Nat)) (.tmp (32 : Nat)), none⟩,
  ⟨(some 36), .load 66 (.tmp (35 : Nat)), none⟩,
  ⟨(some 10), .alloc 66, none⟩,
  ⟨(some 9), .assign (.tmp (34 : Nat)), none⟩,
  ⟨none, .store 66 (.tmp (10 : Nat)) (.tmp (36 : Nat)), none⟩]
def bitmap_FromRuns_r7 : List SO := [⟨(some 37), .fieldAddr 66 (.tmp (10 : Nat)) 0, none⟩,
  ⟨(some 38), .load 3 (.tmp (37 : Nat)), none⟩,
  ⟨(some 39), .binOp .lss 3 (.tmp (38 : Nat)) (.const (.int .i64 0)) 3, none⟩,
  ⟨(some 40), .move (.tmp (39 : Nat)), none⟩,
  ⟨(some 41), .fieldAddr 66 (.tmp (10 : Nat)) 0, (some (40, false))⟩,
  ⟨(some 42), .load 3 (.tmp (41 : Nat)), (some (40, false))⟩,
  ⟨(some 43), .move (.tmp (1 : Nat)), (some (40, false))⟩,
  ⟨(some 44), .binOp .geq 3 (.tmp (42 : Nat)) (.tmp (43 : Nat)) 3, (some (40, false))⟩,
  ⟨(some 45), .pick (.tmp (40 : Nat)) (.const (.bool true)) (.tmp (44 : Nat)), none⟩,
  ⟨(some 46), .move (.tmp (45 : Nat)), none⟩,
  ⟨(some 47), .fieldAddr 66 (.tmp (10 : Nat)) 1, (some (46, false))⟩,
  ⟨(some 48), .load 3 (.tmp (47 : Nat)), (some (46, false))⟩,
  ⟨(some 49), .binOp .lss 3 (.tmp (48 : Nat)) (.const (.int .i64 0)) 3, (some (46, false))⟩,
  ⟨(some 50), .pick (.tmp (46 : Nat)) (.const (.bool true)) (.tmp (49 : Nat)), none⟩,
  ⟨(some 51), .move (.tmp (50 : Nat)), none⟩,
  ⟨(some 52), .fieldAddr 66 (.tmp (10 : Nat)) 2, (some (51, false))⟩,
  ⟨(some 53), .load 3 (.tmp (52 : Nat)), (some (51, false))⟩,
  ⟨(some 54), .move (.tmp (0 : Nat)), (some (51, false))⟩,
  ⟨(some 55), .binOp .gtr 3 (.tmp (53 : Nat)) (.tmp (54 : Nat)) 3, (some (51, false))⟩,
  ⟨(some 56), .pick (.tmp (51 : Nat)) (.const (.bool true)) (.tmp (55 : Nat)), none⟩,
  ⟨(some 57), .move (.tmp (56 : Nat)), none⟩,
  ⟨(some 58), .fieldAddr 66 (.tmp (10 : Nat)) 1, (some (57, false))⟩,
  ⟨(some 59), .load 3 (.tmp (58 : Nat)), (some (57, false))⟩,
  ⟨(some 60), .fieldAddr 66 (.tmp (10 : Nat)) 2, (some (57, false))⟩,
  ⟨(some 61), .load 3 (.tmp (60 : Nat)), (some (57, false))⟩,
  ⟨(some 62), .binOp .geq 3 (.tmp (59 : Nat)) (.tmp (61 : Nat)) 3, (some (57, false))⟩,
  ⟨(some 63), .pick (.tmp (57 : Nat)) (.const (.bool true)) (.tmp (62 : Nat)), none⟩]
def bitmap_FromRuns_r8 : List SO := [⟨(some 64), .build 28 #[], none⟩,
  ⟨none, .store 28 (.tmp (6 : Nat)) (.tmp (64 : Nat)), none⟩,
  ⟨(some 7), .assign (.const (.int .i64 3)), none⟩]
def bitmap_FromRuns_r9 : List SO := [⟨(some 65), .move (.tmp (9 : Nat)), none⟩,
  ⟨(some 66), .binOp .gtr 3 (.tmp (65 : Nat)) (.const (.int .i64 0)) 3, none⟩,
  ⟨(some 67), .move (.tmp (66 : Nat)), none⟩,
  ⟨(some 68), .fieldAddr 66 (.tmp (10 : Nat)) 0, (some (67, true))⟩,
  ⟨(some 69), .load 3 (.tmp (68 : Nat)), (some (67, true))⟩,
  ⟨(some 70), .move (.tmp (2 : Nat)), (some (67, true))⟩,
  ⟨(some 71), .move (.tmp (9 : Nat)), (some (67, true))⟩,
  ⟨(some 72), .binOp .sub 3 (.tmp (71 : Nat)) (.const (.int .i64 1)) 3, (some (67, true))⟩,
  ⟨(some 73), .indexAddr 60 (.tmp (70 : Nat)) (.tmp (72 : Nat)), (some (67, true))⟩,
  ⟨(some 74), .fieldAddr 66 (.tmp (73 : Nat)) 0, (some (67, true))⟩,
  ⟨(some 75), .load 3 (.tmp (74 : Nat)), (some (67, true))⟩,
  ⟨(some 76), .binOp .lss 3 (.tmp (69 : Nat)) (.tmp (75 : Nat)) 3, (some (67, true))⟩,
  ⟨(some 77), .move (.tmp (76 : Nat)), (some (67, true))⟩,
  ⟨(some 78), .fieldAddr 66 (.tmp (10 : Nat)) 0, (some (77, false))⟩,
  ⟨(some 79), .load 3 (.tmp (78 : Nat)), (some (77, false))⟩,
  ⟨(some 80), .move (.tmp (2 : Nat)), (some (77, false))⟩,
  ⟨(some 81), .move (.tmp (9 : Nat)), (some (77, false))⟩,
  ⟨(some 82), .binOp .sub 3 (.tmp (81 : Nat)) (.const (.int .i64 1)) 3, (some (77, false))⟩,
  ⟨(some 83), .indexAddr 60 (.tmp (80 : Nat)) (.tmp (82 : Nat)), (some (77, false))⟩,
  ⟨(some 84), .fieldAddr 66 (.tmp (83 : Nat)) 0, (some (77, false))⟩,
  ⟨(some 85), .load 3 (.tmp (84 : Nat)), (some (77, false))⟩,
  ⟨(some 86), .binOp .eql 3 (.tmp (79 : Nat)) (.tmp (85 : Nat)) 3, (some (77, false))⟩,
  ⟨(some 87), .move (.tmp (86 : Nat)), (some (77, false))⟩,
  ⟨(some 88), .fieldAddr 66 (.tmp (10 : Nat)) 1, (some (87, true))⟩,
  ⟨(some 89), .load 3 (.tmp (88 : Nat)), (some (87, true))⟩,
  ⟨(some 90), .move (.tmp (2 : Nat)), (some (87, true))⟩,
  ⟨(some 91), .move (.tmp (9 : Nat)), (some (87, true))⟩,
  ⟨(some 92), .binOp .sub 3 (.tmp (91 : Nat)) (.const (.int .i64 1)) 3, (some (87, true))⟩,
  ⟨(some 93), .indexAddr 60 (.tmp (90 : Nat)) (.tmp (92 : Nat)), (some (87, true))⟩,
  ⟨(some 94), .fieldAddr 66 (.tmp (93 : Nat)) 2, (some (87, true))⟩,
  ⟨(some 95), .load 3 (.tmp (94 : Nat)), (some (87, true))⟩,
  ⟨(some 96), .binOp .leq 3 (.tmp (89 : Nat)) (.tmp (95 : Nat)) 3, (some (87, true))⟩,
  ⟨(some 97), .pick (.tmp (87 : Nat)) (.tmp (96 : Nat)) (.const (.bool false)), (some (77, false))⟩,
  ⟨(some 98), .pick (.tmp (77 : Nat)) (.const (.bool true)) (.tmp (97 : Nat)), (some (67, true))⟩,
  ⟨(some 99), .pick (.tmp (67 : Nat)) (.tmp (98 : Nat)) (.const (.bool false)), none⟩]
def bitmap_FromRuns_a9 : List (List Nat) := [[], [0], [1], [2], [3, 2], [2], [2], [6, 2], [5, 7, 2], [8, 2], [9, 2], [4, 10, 2], [11, 2, 2], [12], [13, 12], [12], [12], [16, 12], [15, 17, 12], [18, 12], [19, 12], [14, 20, 12], [21, 12, 12], [22], [23, 22], [22], [22], [26, 22], [25, 27, 22], [28, 22], [29, 22], [24, 30, 22], [22, 31, 12], [12, 32, 2], [2, 33]]
def bitmap_FromRuns_r10 : List SO := [⟨(some 100), .build 28 #[], none⟩,
  ⟨none, .store 28 (.tmp (6 : Nat)) (.tmp (100 : Nat)), none⟩,
  ⟨(some 7), .assign (.const (.int .i64 18)), none⟩]
def bitmap_FromRuns_r11 : List SO := [⟨(some 101), .fieldAddr 66 (.tmp (10 : Nat)) 1, none⟩,
  ⟨(some 102), .load 3 (.tmp (101 : Nat)), none⟩,
  ⟨(some 11), .assign (.tmp (102 : Nat)), none⟩]
def bitmap_FromRuns_r12 : List SO := [⟨(some 103), .move (.tmp (11 : Nat)), none⟩,
  ⟨(some 104), .fieldAddr 66 (.tmp (10 : Nat)) 2, none⟩,
  ⟨(some 105), .load 3 (.tmp (104 : Nat)), none⟩,
  ⟨(some 106), .binOp .lss 3 (.tmp (103 : Nat)) (.tmp (105 : Nat)) 3, none⟩]
def bitmap_FromRuns_r13 : List SO := [⟨(some 109), .move (.tmp (11 : Nat)), none⟩,
  ⟨(some 110), .fieldAddr 66 (.tmp (10 : Nat)) 0, none⟩,
  ⟨(some 111), .load 3 (.tmp (110 : Nat)), none⟩,
  ⟨(some 112), .call ⟨(.value (.func (68 : Nat))), #[(.tmp (8 : Nat)), (.tmp (109 : Nat)), (.tmp (111 : Nat))], #[97, 3, 3]⟩, none⟩]
def bitmap_FromRuns_r14 : List SO := [⟨(some 107), .move (.tmp (11 : Nat)), none⟩,
  ⟨(some 108), .binOp .add 3 (.tmp (107 : Nat)) (.const (.int .i64 1)) 3, none⟩,
  ⟨(some 11), .assign (.tmp (108 : Nat)), none⟩]
def bitmap_FromRuns_r15 : List SO := [⟨(some 113), .binOp .add 3 (.tmp (32 : Nat)) (.const (.int .i64 1)) 3, none⟩,
  ⟨(some 32), .move (.tmp (113 : Nat)), none⟩]
def bitmap_FromRuns_r16 : List SO := [⟨(some 114), .load 28 (.tmp (8 : Nat)), none⟩,
  ⟨none, .store 28 (.tmp (6 : Nat)) (.tmp (114 : Nat)), none⟩,
  ⟨(some 7), .assign (.const (.int .i64 0)), none⟩]
def bitmap_FromRuns_c : SF := ⟨115, (.seq (.reg bitmap_FromRuns_r0)
  (.seq (.seq (.reg bitmap_FromRuns_r1)
  (.cond (.tmp (25 : Nat)) (.seq (.reg bitmap_FromRuns_r2)
  .ret) .skip))
  (.seq (.reg bitmap_FromRuns_r3)
  (.seq (.seq (.reg bitmap_FromRuns_r4)
  (.block 0 (.loop (.seq (.reg bitmap_FromRuns_r5)
  (.seq (.cond (.tmp (33 : Nat)) .skip (.exit 0))
  (.seq (.block 1 (.seq (.reg bitmap_FromRuns_r6)
  (.seq (.seq (.reg bitmap_FromRuns_r7)
  (.cond (.tmp (63 : Nat)) (.seq (.reg bitmap_FromRuns_r8)
  .ret) .skip))
  (.seq (.seq (.regd bitmap_FromRuns_r9 bitmap_FromRuns_a9)
  (.cond (.tmp (99 : Nat)) (.seq (.reg bitmap_FromRuns_r10)
  .ret) .skip))
  (.seq (.reg bitmap_FromRuns_r11)
  (.block 2 (.loop (.seq (.seq (.reg bitmap_FromRuns_r12)
  (.cond (.tmp (106 : Nat)) .skip (.exit 2)))
  (.seq (.block 3 (.reg bitmap_FromRuns_r13))
  (.reg bitmap_FromRuns_r14))))))))))
  (.reg bitmap_FromRuns_r15)))))))
  (.seq (.reg bitmap_FromRuns_r16)
  .ret))))), [.cell 6 28, .tmp 7]⟩
theorem bitmap_FromRuns_s : slimF Try.prog 35 = some bitmap_FromRuns_c := by kernel_rfl
abbrev bitmap_FromRuns_f : Nat := 35
/-- printworks/bitmap.Spread -/
def bitmap_Spread_r0 : List SO := [⟨(some 2), .box 28 (.tmp (0 : Nat)), none⟩,
  ⟨(some 4), .alloc 28, none⟩,
  ⟨(some 5), .assign (.const (.int .i64 0)), none⟩]
def bitmap_Spread_r1 : List SO := [⟨(some 7), .load 28 (.tmp (2 : Nat)), none⟩,
  ⟨(some 8), .call ⟨(.value (.func (22 : Nat))), #[(.tmp (7 : Nat))], #[28]⟩, none⟩,
  ⟨(some 6), .assign (.tmp (8 : Nat)), none⟩]
def bitmap_Spread_r2 : List SO := [⟨(some 9), .move (.tmp (6 : Nat)), none⟩,
  ⟨(some 10), .binOp .neq 32 (.tmp (9 : Nat)) (.const (.int .i64 0)) 32, none⟩]
def bitmap_Spread_r3 : List SO := [⟨(some 11), .build 28 #[], none⟩,
  ⟨(some 12), .move (.tmp (6 : Nat)), none⟩,
  ⟨none, .store 28 (.tmp (4 : Nat)) (.tmp (11 : Nat)), none⟩,
  ⟨(some 5), .assign (.tmp (12 : Nat)), none⟩]
def bitmap_Spread_r4 : List SO := [⟨(some 13), .move (.tmp (1 : Nat)), none⟩,
  ⟨(some 14), .binOp .lss 3 (.tmp (13 : Nat)) (.const (.int .i64 0)) 3, none⟩,
  ⟨(some 15), .move (.tmp (14 : Nat)), none⟩,
  ⟨(some 16), .move (.tmp (1 : Nat)), (some (15, false))⟩,
  ⟨(some 17), .binOp .gtr 3 (.tmp (16 : Nat)) (.const (.int .i64 16)) 3, (some (15, false))⟩,
  ⟨(some 18), .pick (.tmp (15 : Nat)) (.const (.bool true)) (.tmp (17 : Nat)), none⟩]
def bitmap_Spread_r5 : List SO := [⟨(some 19), .build 28 #[], none⟩,
  ⟨none, .store 28 (.tmp (4 : Nat)) (.tmp (19 : Nat)), none⟩,
  ⟨(some 5), .assign (.const (.int .i64 3)), none⟩]
def bitmap_Spread_r6 : List SO := [⟨(some 20), .move (.tmp (1 : Nat)), none⟩,
  ⟨(some 21), .call ⟨(.value (.func (69 : Nat))), #[(.tmp (2 : Nat)), (.tmp (20 : Nat))], #[97, 3]⟩, none⟩,
  ⟨none, .store 28 (.tmp (4 : Nat)) (.tmp (21 : Nat)), none⟩,
  ⟨(some 5), .assign (.const (.int .i64 0)), none⟩]
def bitmap_Spread_c : SF := ⟨22, (.seq (.reg bitmap_Spread_r0)
  (.seq (.seq (.reg bitmap_Spread_r1)
  (.seq (.reg bitmap_Spread_r2)
  (.cond (.tmp (10 : Nat)) (.seq (.reg bitmap_Spread_r3)
  .ret) .skip)))
  (.seq (.seq (.reg bitmap_Spread_r4)
  (.cond (.tmp (18 : Nat)) (.seq (.reg bitmap_Spread_r5)
  .ret) .skip))
  (.seq (.reg bitmap_Spread_r6)
  .ret)))), [.cell 4 28, .tmp 5]⟩
theorem bitmap_Spread_s : slimF Try.prog 36 = some bitmap_Spread_c := by kernel_rfl
abbrev bitmap_Spread_f : Nat := 36
/-- printworks/bitmap.Or -/
def bitmap_Or_r0 : List SO := [⟨(some 2), .box 28 (.tmp (0 : Nat)), none⟩,
  ⟨(some 3), .box 28 (.tmp (1 : Nat)), none⟩,
  ⟨(some 4), .alloc 28, none⟩,
  ⟨(some 5), .assign (.const (.int .i64 0)), none⟩]
def bitmap_Or_r1 : List SO := [⟨(some 6), .load 28 (.tmp (2 : Nat)), none⟩,
  ⟨(some 7), .load 28 (.tmp (3 : Nat)), none⟩,
  ⟨(some 8), .call ⟨(.value (.func (70 : Nat))), #[(.tmp (6 : Nat)), (.tmp (7 : Nat)), (.func (71 : Nat))], #[28, 28, 118]⟩, none⟩,
  ⟨(some 9), .extract (.tmp (8 : Nat)) 0, none⟩,
  ⟨(some 10), .extract (.tmp (8 : Nat)) 1, none⟩,
  ⟨none, .store 28 (.tmp (4 : Nat)) (.tmp (9 : Nat)), none⟩,
  ⟨(some 5), .assign (.tmp (10 : Nat)), none⟩]
def bitmap_Or_c : SF := ⟨11, (.seq (.reg bitmap_Or_r0)
  (.seq (.reg bitmap_Or_r1)
  .ret)), [.cell 4 28, .tmp 5]⟩
theorem bitmap_Or_s : slimF Try.prog 37 = some bitmap_Or_c := by kernel_rfl
abbrev bitmap_Or_f : Nat := 37
/-- printworks/bitmap.And -/
def bitmap_And_r0 : List SO := [⟨(some 2), .box 28 (.tmp (0 : Nat)), none⟩,
  ⟨(some 3), .box 28 (.tmp (1 : Nat)), none⟩,
  ⟨(some 4), .alloc 28, none⟩,
  ⟨(some 5), .assign (.const (.int .i64 0)), none⟩]
def bitmap_And_r1 : List SO := [⟨(some 6), .load 28 (.tmp (2 : Nat)), none⟩,
  ⟨(some 7), .load 28 (.tmp (3 : Nat)), none⟩,
  ⟨(some 8), .call ⟨(.value (.func (70 : Nat))), #[(.tmp (6 : Nat)), (.tmp (7 : Nat)), (.func (72 : Nat))], #[28, 28, 118]⟩, none⟩,
  ⟨(some 9), .extract (.tmp (8 : Nat)) 0, none⟩,
  ⟨(some 10), .extract (.tmp (8 : Nat)) 1, none⟩,
  ⟨none, .store 28 (.tmp (4 : Nat)) (.tmp (9 : Nat)), none⟩,
  ⟨(some 5), .assign (.tmp (10 : Nat)), none⟩]
def bitmap_And_c : SF := ⟨11, (.seq (.reg bitmap_And_r0)
  (.seq (.reg bitmap_And_r1)
  .ret)), [.cell 4 28, .tmp 5]⟩
theorem bitmap_And_s : slimF Try.prog 38 = some bitmap_And_c := by kernel_rfl
abbrev bitmap_And_f : Nat := 38
/-- printworks/bitmap.Minus -/
def bitmap_Minus_r0 : List SO := [⟨(some 2), .box 28 (.tmp (0 : Nat)), none⟩,
  ⟨(some 3), .box 28 (.tmp (1 : Nat)), none⟩,
  ⟨(some 4), .alloc 28, none⟩,
  ⟨(some 5), .assign (.const (.int .i64 0)), none⟩]
def bitmap_Minus_r1 : List SO := [⟨(some 6), .load 28 (.tmp (2 : Nat)), none⟩,
  ⟨(some 7), .load 28 (.tmp (3 : Nat)), none⟩,
  ⟨(some 8), .call ⟨(.value (.func (70 : Nat))), #[(.tmp (6 : Nat)), (.tmp (7 : Nat)), (.func (73 : Nat))], #[28, 28, 118]⟩, none⟩,
  ⟨(some 9), .extract (.tmp (8 : Nat)) 0, none⟩,
  ⟨(some 10), .extract (.tmp (8 : Nat)) 1, none⟩,
  ⟨none, .store 28 (.tmp (4 : Nat)) (.tmp (9 : Nat)), none⟩,
  ⟨(some 5), .assign (.tmp (10 : Nat)), none⟩]
def bitmap_Minus_c : SF := ⟨11, (.seq (.reg bitmap_Minus_r0)
  (.seq (.reg bitmap_Minus_r1)
  .ret)), [.cell 4 28, .tmp 5]⟩
theorem bitmap_Minus_s : slimF Try.prog 39 = some bitmap_Minus_c := by kernel_rfl
abbrev bitmap_Minus_f : Nat := 39
/-- printworks/bitmap.FromPlate -/
def bitmap_FromPlate_r0 : List SO := [⟨(some 2), .box 80 (.tmp (0 : Nat)), none⟩,
  ⟨(some 3), .box 3 (.tmp (1 : Nat)), none⟩,
  ⟨(some 4), .alloc 28, none⟩,
  ⟨(some 5), .assign (.const (.int .i64 0)), none⟩]
def bitmap_FromPlate_r1 : List SO := [⟨(some 7), .load 80 (.tmp (2 : Nat)), none⟩,
  ⟨(some 8), .call ⟨(.value (.func (76 : Nat))), #[(.tmp (7 : Nat))], #[80]⟩, none⟩,
  ⟨(some 6), .assign (.tmp (8 : Nat)), none⟩]
def bitmap_FromPlate_r2 : List SO := [⟨(some 9), .move (.tmp (6 : Nat)), none⟩,
  ⟨(some 10), .binOp .neq 32 (.tmp (9 : Nat)) (.const (.int .i64 0)) 32, none⟩]
def bitmap_FromPlate_r3 : List SO := [⟨(some 11), .build 28 #[], none⟩,
  ⟨(some 12), .move (.tmp (6 : Nat)), none⟩,
  ⟨none, .store 28 (.tmp (4 : Nat)) (.tmp (11 : Nat)), none⟩,
  ⟨(some 5), .assign (.tmp (12 : Nat)), none⟩]
def bitmap_FromPlate_r4 : List SO := [⟨(some 13), .load 3 (.tmp (3 : Nat)), none⟩,
  ⟨(some 14), .binOp .lss 3 (.tmp (13 : Nat)) (.const (.int .i64 1)) 3, none⟩,
  ⟨(some 15), .move (.tmp (14 : Nat)), none⟩,
  ⟨(some 16), .load 3 (.tmp (3 : Nat)), (some (15, false))⟩,
  ⟨(some 17), .binOp .gtr 3 (.tmp (16 : Nat)) (.const (.int .i64 255)) 3, (some (15, false))⟩,
  ⟨(some 18), .pick (.tmp (15 : Nat)) (.const (.bool true)) (.tmp (17 : Nat)), none⟩]
def bitmap_FromPlate_r5 : List SO := [⟨(some 19), .build 28 #[], none⟩,
  ⟨none, .store 28 (.tmp (4 : Nat)) (.tmp (19 : Nat)), none⟩,
  ⟨(some 5), .assign (.const (.int .i64 3)), none⟩]
def bitmap_FromPlate_r6 : List SO := [⟨(some 20), .fieldAddr 80 (.tmp (2 : Nat)) 0, none⟩,
  ⟨(some 21), .load 3 (.tmp (20 : Nat)), none⟩,
  ⟨(some 22), .fieldAddr 80 (.tmp (2 : Nat)) 1, none⟩,
  ⟨(some 23), .load 3 (.tmp (22 : Nat)), none⟩,
  ⟨(some 24), .makeFunc (.func (78 : Nat)) #[] #[(.tmp (2 : Nat)), (.tmp (3 : Nat))], none⟩,
  ⟨(some 25), .call ⟨(.value (.func (77 : Nat))), #[(.tmp (21 : Nat)), (.tmp (23 : Nat)), (.tmp (24 : Nat))], #[3, 3, 123]⟩, none⟩,
  ⟨none, .store 28 (.tmp (4 : Nat)) (.tmp (25 : Nat)), none⟩,
  ⟨(some 5), .assign (.const (.int .i64 0)), none⟩]
def bitmap_FromPlate_c : SF := ⟨26, (.seq (.reg bitmap_FromPlate_r0)
  (.seq (.seq (.reg bitmap_FromPlate_r1)
  (.seq (.reg bitmap_FromPlate_r2)
  (.cond (.tmp (10 : Nat)) (.seq (.reg bitmap_FromPlate_r3)
  .ret) .skip)))
  (.seq (.seq (.reg bitmap_FromPlate_r4)
  (.cond (.tmp (18 : Nat)) (.seq (.reg bitmap_FromPlate_r5)
  .ret) .skip))
  (.seq (.reg bitmap_FromPlate_r6)
  .ret)))), [.cell 4 28, .tmp 5]⟩
theorem bitmap_FromPlate_s : slimF Try.prog 45 = some bitmap_FromPlate_c := by kernel_rfl
abbrev bitmap_FromPlate_f : Nat := 45
/-- printworks/bitmap.Is -/
def bitmap_Is_r0 : List SO := [⟨(some 6), .assign (.const (.bool false)), none⟩]
def bitmap_Is_r1 : List SO := [⟨(some 7), .move (.tmp (1 : Nat)), none⟩,
  ⟨(some 8), .binOp .geq 3 (.tmp (7 : Nat)) (.const (.int .i64 0)) 3, none⟩,
  ⟨(some 9), .move (.tmp (8 : Nat)), none⟩,
  ⟨(some 10), .move (.tmp (1 : Nat)), (some (9, true))⟩,
  ⟨(some 11), .move (.tmp (0 : Nat)), (some (9, true))⟩,
  ⟨(some 12), .nilCheck (.tmp (11 : Nat)), (some (9, true))⟩,
  ⟨(some 13), .fieldAddr 28 (.tmp (12 : Nat)) 0, (some (9, true))⟩,
  ⟨(some 14), .load 3 (.tmp (13 : Nat)), (some (9, true))⟩,
  ⟨(some 15), .binOp .lss 3 (.tmp (10 : Nat)) (.tmp (14 : Nat)) 3, (some (9, true))⟩,
  ⟨(some 16), .pick (.tmp (9 : Nat)) (.tmp (15 : Nat)) (.const (.bool false)), none⟩,
  ⟨(some 17), .move (.tmp (16 : Nat)), none⟩,
  ⟨(some 18), .move (.tmp (2 : Nat)), (some (17, true))⟩,
  ⟨(some 19), .binOp .geq 3 (.tmp (18 : Nat)) (.const (.int .i64 0)) 3, (some (17, true))⟩,
  ⟨(some 20), .pick (.tmp (17 : Nat)) (.tmp (19 : Nat)) (.const (.bool false)), none⟩,
  ⟨(some 21), .move (.tmp (20 : Nat)), none⟩,
  ⟨(some 22), .move (.tmp (2 : Nat)), (some (21, true))⟩,
  ⟨(some 23), .move (.tmp (0 : Nat)), (some (21, true))⟩,
  ⟨(some 24), .nilCheck (.tmp (23 : Nat)), (some (21, true))⟩,
  ⟨(some 25), .fieldAddr 28 (.tmp (24 : Nat)) 1, (some (21, true))⟩,
  ⟨(some 26), .load 3 (.tmp (25 : Nat)), (some (21, true))⟩,
  ⟨(some 27), .binOp .lss 3 (.tmp (22 : Nat)) (.tmp (26 : Nat)) 3, (some (21, true))⟩,
  ⟨(some 28), .pick (.tmp (21 : Nat)) (.tmp (27 : Nat)) (.const (.bool false)), none⟩,
  ⟨(some 29), .move (.tmp (28 : Nat)), none⟩,
  ⟨(some 30), .move (.tmp (0 : Nat)), (some (29, true))⟩,
  ⟨(some 31), .nilCheck (.tmp (30 : Nat)), (some (29, true))⟩,
  ⟨(some 32), .fieldAddr 28 (.tmp (31 : Nat)) 2, (some (29, true))⟩,
  ⟨(some 33), .load 26 (.tmp (32 : Nat)), (some (29, true))⟩,
  ⟨(some 34), .move (.tmp (2 : Nat)), (some (29, true))⟩,
  ⟨(some 35), .move (.tmp (0 : Nat)), (some (29, true))⟩,
  ⟨(some 36), .nilCheck (.tmp (35 : Nat)), (some (29, true))⟩,
  ⟨(some 37), .fieldAddr 28 (.tmp (36 : Nat)) 0, (some (29, true))⟩,
  ⟨(some 38), .load 3 (.tmp (37 : Nat)), (some (29, true))⟩,
  ⟨(some 39), .call ⟨(.value (.func (56 : Nat))), #[(.tmp (38 : Nat))], #[3]⟩, (some (29, true))⟩,
  ⟨(some 40), .binOp .mul 3 (.tmp (34 : Nat)) (.tmp (39 : Nat)) 3, (some (29, true))⟩,
  ⟨(some 41), .move (.tmp (1 : Nat)), (some (29, true))⟩,
  ⟨(some 42), .binOp .quo 3 (.tmp (41 : Nat)) (.const (.int .i64 8)) 3, (some (29, true))⟩,
  ⟨(some 43), .binOp .add 3 (.tmp (40 : Nat)) (.tmp (42 : Nat)) 3, (some (29, true))⟩,
  ⟨(some 44), .indexAddr 26 (.tmp (33 : Nat)) (.tmp (43 : Nat)), (some (29, true))⟩,
  ⟨(some 45), .load 5 (.tmp (44 : Nat)), (some (29, true))⟩,
  ⟨(some 46), .move (.tmp (1 : Nat)), (some (29, true))⟩,
  ⟨(some 47), .binOp .rem 3 (.tmp (46 : Nat)) (.const (.int .i64 8)) 3, (some (29, true))⟩,
  ⟨(some 48), .binOp .shr 5 (.const (.int .u8 128)) (.tmp (47 : Nat)) 3, (some (29, true))⟩,
  ⟨(some 49), .binOp .and 5 (.tmp (45 : Nat)) (.tmp (48 : Nat)) 5, (some (29, true))⟩,
  ⟨(some 50), .binOp .neq 5 (.tmp (49 : Nat)) (.const (.int .u8 0)) 5, (some (29, true))⟩,
  ⟨(some 51), .pick (.tmp (29 : Nat)) (.tmp (50 : Nat)) (.const (.bool false)), none⟩,
  ⟨(some 6), .assign (.tmp (51 : Nat)), none⟩]
def bitmap_Is_a1 : List (List Nat) := [[], [0], [1], [2], [2], [4, 2], [5, 2], [6, 2], [3, 7, 2], [2, 8], [9, 2], [10], [11, 10], [10, 12], [13, 10], [14], [14], [16, 14], [17, 14], [18, 14], [15, 19, 14], [14, 20], [21, 14], [22], [23, 22], [24, 22], [25, 22], [22], [22], [28, 22], [29, 22], [30, 22], [31, 22, 22], [27, 32, 22], [22], [34, 22], [33, 35, 22], [26, 36, 22], [37, 22], [22], [39, 22], [40, 22], [38, 41, 22], [42, 22], [22, 43], [44, 32, 0, 1, 2, 3, 4, 5, 6, 7, 8, 9, 10, 11, 12, 13, 14, 15, 16, 17, 18, 19, 20, 21, 22, 23, 24, 25, 26, 27, 28, 29, 30, 31, 32, 33, 34, 35, 36, 37, 38, 39, 40, 41, 42, 43, 44]]
def bitmap_Is_c : SF := ⟨52, (.seq (.reg bitmap_Is_r0)
  (.seq (.regd bitmap_Is_r1 bitmap_Is_a1)
  .ret)), [.tmp 6]⟩
theorem bitmap_Is_s : slimF Try.prog 52 = some bitmap_Is_c := by kernel_rfl
abbrev bitmap_Is_f : Nat := 52
/-- printworks/bitmap.Set -/
def bitmap_Set_r0 : List SO := [⟨(some 4), .box 28 (.tmp (0 : Nat)), none⟩,
  ⟨(some 8), .alloc 28, none⟩,
  ⟨(some 9), .assign (.const (.int .i64 0)), none⟩]
def bitmap_Set_r1 : List SO := [⟨(some 11), .load 28 (.tmp (4 : Nat)), none⟩,
  ⟨(some 12), .call ⟨(.value (.func (22 : Nat))), #[(.tmp (11 : Nat))], #[28]⟩, none⟩,
  ⟨(some 10), .assign (.tmp (12 : Nat)), none⟩]
def bitmap_Set_r2 : List SO := [⟨(some 13), .move (.tmp (10 : Nat)), none⟩,
  ⟨(some 14), .binOp .neq 32 (.tmp (13 : Nat)) (.const (.int .i64 0)) 32, none⟩]
def bitmap_Set_r3 : List SO := [⟨(some 15), .build 28 #[], none⟩,
  ⟨(some 16), .move (.tmp (10 : Nat)), none⟩,
  ⟨none, .store 28 (.tmp (8 : Nat)) (.tmp (15 : Nat)), none⟩,
  ⟨(some 9), .assign (.tmp (16 : Nat)), none⟩]
def bitmap_Set_r4 : List SO := [⟨(some 17), .move (.tmp (1 : Nat)), none⟩,
  ⟨(some 18), .binOp .lss 3 (.tmp (17 : Nat)) (.const (.int .i64 0)) 3, none⟩,
  ⟨(some 19), .move (.tmp (18 : Nat)), none⟩,
  ⟨(some 20), .move (.tmp (1 : Nat)), (some (19, false))⟩,
  ⟨(some 21), .fieldAddr 28 (.tmp (4 : Nat)) 0, (some (19, false))⟩,
  ⟨(some 22), .load 3 (.tmp (21 : Nat)), (some (19, false))⟩,
  ⟨(some 23), .binOp .geq 3 (.tmp (20 : Nat)) (.tmp (22 : Nat)) 3, (some (19, false))⟩,
  ⟨(some 24), .pick (.tmp (19 : Nat)) (.const (.bool true)) (.tmp (23 : Nat)), none⟩,
  ⟨(some 25), .move (.tmp (24 : Nat)), none⟩,
  ⟨(some 26), .move (.tmp (2 : Nat)), (some (25, false))⟩,
  ⟨(some 27), .binOp .lss 3 (.tmp (26 : Nat)) (.const (.int .i64 0)) 3, (some (25, false))⟩,
  ⟨(some 28), .pick (.tmp (25 : Nat)) (.const (.bool true)) (.tmp (27 : Nat)), none⟩,
  ⟨(some 29), .move (.tmp (28 : Nat)), none⟩,
  ⟨(some 30), .move (.tmp (2 : Nat)), (some (29, false))⟩,
  ⟨(some 31), .fieldAddr 28 (.tmp (4 : Nat)) 1, (some (29, false))⟩,
  ⟨(some 32), .load 3 (.tmp (31 : Nat)), (some (29, false))⟩,
  ⟨(some 33), .binOp .geq 3 (.tmp (30 : Nat)) (.tmp (32 : Nat)) 3, (some (29, false))⟩,
  ⟨(some 34), .pick (.tmp (29 : Nat)) (.const (.bool true)) (.tmp (33 : Nat)), none⟩]
def bitmap_Set_r5 : List SO := [⟨(some 35), .build 28 #[], none⟩,
  ⟨none, .store 28 (.tmp (8 : Nat)) (.tmp (35 : Nat)), none⟩,
  ⟨(some 9), .assign (.const (.int .i64 3)), none⟩]
def bitmap_Set_r6 : List SO := [⟨(some 36), .fieldAddr 28 (.tmp (4 : Nat)) 2, none⟩,
  ⟨(some 37), .load 26 (.tmp (36 : Nat)), none⟩,
  ⟨(some 38), .call ⟨(.builtin .append), #[(.const (.slice none 0 0)), (.tmp (37 : Nat))], #[26, 26]⟩, none⟩,
  ⟨(some 39), .fieldAddr 28 (.tmp (4 : Nat)) 2, none⟩,
  ⟨none, .store 26 (.tmp (39 : Nat)) (.tmp (38 : Nat)), none⟩]
def bitmap_Set_r7 : List SO := [⟨(some 40), .move (.tmp (3 : Nat)), none⟩]
def bitmap_Set_r8 : List SO := [⟨(some 41), .move (.tmp (1 : Nat)), none⟩,
  ⟨(some 42), .move (.tmp (2 : Nat)), none⟩,
  ⟨(some 43), .call ⟨(.value (.func (68 : Nat))), #[(.tmp (4 : Nat)), (.tmp (41 : Nat)), (.tmp (42 : Nat))], #[97, 3, 3]⟩, none⟩]
def bitmap_Set_r9 : List SO := [⟨(some 44), .fieldAddr 28 (.tmp (4 : Nat)) 2, none⟩,
  ⟨(some 45), .load 26 (.tmp (44 : Nat)), none⟩,
  ⟨(some 46), .move (.tmp (2 : Nat)), none⟩,
  ⟨(some 47), .fieldAddr 28 (.tmp (4 : Nat)) 0, none⟩,
  ⟨(some 48), .load 3 (.tmp (47 : Nat)), none⟩,
  ⟨(some 49), .call ⟨(.value (.func (56 : Nat))), #[(.tmp (48 : Nat))], #[3]⟩, none⟩,
  ⟨(some 50), .binOp .mul 3 (.tmp (46 : Nat)) (.tmp (49 : Nat)) 3, none⟩,
  ⟨(some 51), .move (.tmp (1 : Nat)), none⟩,
  ⟨(some 52), .binOp .quo 3 (.tmp (51 : Nat)) (.const (.int .i64 8)) 3, none⟩,
  ⟨(some 53), .binOp .add 3 (.tmp (50 : Nat)) (.tmp (52 : Nat)) 3, none⟩,
  ⟨(some 54), .indexAddr 26 (.tmp (45 : Nat)) (.tmp (53 : Nat)), none⟩,
  ⟨(some 55), .load 5 (.tmp (54 : Nat)), none⟩,
  ⟨(some 56), .move (.tmp (1 : Nat)), none⟩,
  ⟨(some 57), .binOp .rem 3 (.tmp (56 : Nat)) (.const (.int .i64 8)) 3, none⟩,
  ⟨(some 58), .binOp .shr 5 (.const (.int .u8 128)) (.tmp (57 : Nat)) 3, none⟩,
  ⟨(some 59), .binOp .andNot 5 (.tmp (55 : Nat)) (.tmp (58 : Nat)) 5, none⟩,
  ⟨(some 60), .indexAddr 26 (.tmp (45 : Nat)) (.tmp (53 : Nat)), none⟩,
  ⟨none, .store 5 (.tmp (60 : Nat)) (.tmp (59 : Nat)), none⟩]
def bitmap_Set_a9 : List (List Nat) := [[], [0], [], [], [3], [4], [2, 5], [], [7], [6, 8], [1, 9], [10], [], [12], [13], [11, 14], [1, 9, 0, 1, 2, 3, 4, 5, 6, 7, 8, 9, 10, 11, 12, 13, 14, 15], [16, 15, 5, 0, 1, 2, 3, 4, 5, 6, 7, 8, 9, 10, 11, 12, 13, 14, 15]]
def bitmap_Set_r10 : List SO := [⟨(some 61), .load 28 (.tmp (4 : Nat)), none⟩,
  ⟨none, .store 28 (.tmp (8 : Nat)) (.tmp (61 : Nat)), none⟩,
  ⟨(some 9), .assign (.const (.int .i64 0)), none⟩]
def bitmap_Set_c : SF := ⟨62, (.seq (.reg bitmap_Set_r0)
  (.seq (.seq (.reg bitmap_Set_r1)
  (.seq (.reg bitmap_Set_r2)
  (.cond (.tmp (14 : Nat)) (.seq (.reg bitmap_Set_r3)
  .ret) .skip)))
  (.seq (.seq (.reg bitmap_Set_r4)
  (.cond (.tmp (34 : Nat)) (.seq (.reg bitmap_Set_r5)
  .ret) .skip))
  (.seq (.reg bitmap_Set_r6)
  (.seq (.seq (.reg bitmap_Set_r7)
  (.cond (.tmp (40 : Nat)) (.reg bitmap_Set_r8) (.regd bitmap_Set_r9 bitmap_Set_a9)))
  (.seq (.reg bitmap_Set_r10)
  .ret)))))), [.cell 8 28, .tmp 9]⟩
theorem bitmap_Set_s : slimF Try.prog 53 = some bitmap_Set_c := by kernel_rfl
abbrev bitmap_Set_f : Nat := 53
/-- printworks/bitmap.Turned -/
def bitmap_Turned_r0 : List SO := [⟨(some 2), .box 97 (.tmp (0 : Nat)), none⟩,
  ⟨(some 4), .alloc 28, none⟩]
def bitmap_Turned_r1 : List SO := [⟨(some 7), .load 97 (.tmp (2 : Nat)), none⟩,
  ⟨(some 8), .nilCheck (.tmp (7 : Nat)), none⟩,
  ⟨(some 9), .load 28 (.tmp (8 : Nat)), none⟩,
  ⟨(some 5), .alloc 28, none⟩,
  ⟨none, .store 28 (.tmp (5 : Nat)) (.tmp (9 : Nat)), none⟩]
def bitmap_Turned_r2 : List SO := [⟨(some 10), .load 97 (.tmp (2 : Nat)), none⟩,
  ⟨(some 11), .nilCheck (.tmp (10 : Nat)), none⟩,
  ⟨(some 12), .fieldAddr 28 (.tmp (11 : Nat)) 2, none⟩,
  ⟨(some 13), .load 26 (.tmp (12 : Nat)), none⟩,
  ⟨(some 14), .call ⟨(.builtin .append), #[(.const (.slice none 0 0)), (.tmp (13 : Nat))], #[26, 26]⟩, none⟩,
  ⟨(some 15), .fieldAddr 28 (.tmp (5 : Nat)) 2, none⟩,
  ⟨none, .store 26 (.tmp (15 : Nat)) (.tmp (14 : Nat)), none⟩]
def bitmap_Turned_r3 : List SO := [⟨(some 16), .move (.tmp (1 : Nat)), none⟩,
  ⟨(some 17), .binOp .geq 3 (.tmp (16 : Nat)) (.const (.int .i64 4)) 3, none⟩]
def bitmap_Turned_r4 : List SO := [⟨(some 18), .load 97 (.tmp (2 : Nat)), none⟩,
  ⟨(some 19), .nilCheck (.tmp (18 : Nat)), none⟩,
  ⟨(some 20), .fieldAddr 28 (.tmp (19 : Nat)) 0, none⟩,
  ⟨(some 21), .load 3 (.tmp (20 : Nat)), none⟩,
  ⟨(some 22), .load 97 (.tmp (2 : Nat)), none⟩,
  ⟨(some 23), .nilCheck (.tmp (22 : Nat)), none⟩,
  ⟨(some 24), .fieldAddr 28 (.tmp (23 : Nat)) 1, none⟩,
  ⟨(some 25), .load 3 (.tmp (24 : Nat)), none⟩,
  ⟨(some 26), .makeFunc (.func (81 : Nat)) #[] #[(.tmp (2 : Nat))], none⟩,
  ⟨(some 27), .call ⟨(.value (.func (77 : Nat))), #[(.tmp (21 : Nat)), (.tmp (25 : Nat)), (.tmp (26 : Nat))], #[3, 3, 123]⟩, none⟩,
  ⟨none, .store 28 (.tmp (5 : Nat)) (.tmp (27 : Nat)), none⟩]
def bitmap_Turned_a4 : List (List Nat) := [[], [0], [1], [2], [], [4], [5], [6], [], [3, 7, 8], [9, 9, 0, 1, 2, 3, 4, 5, 6, 7, 8, 9]]
def bitmap_Turned_r5 : List SO := [⟨(some 28), .move (.tmp (1 : Nat)), none⟩,
  ⟨(some 29), .binOp .rem 3 (.tmp (28 : Nat)) (.const (.int .i64 4)) 3, none⟩,
  ⟨(some 30), .move (.const (.int .i64 0)), none⟩]
def bitmap_Turned_r6 : List SO := [⟨(some 31), .binOp .lss 3 (.tmp (30 : Nat)) (.tmp (29 : Nat)) 3, none⟩]
def bitmap_Turned_r7 : List SO := [⟨(some 32), .load 28 (.tmp (5 : Nat)), none⟩,
  ⟨(some 6), .alloc 28, none⟩,
  ⟨none, .store 28 (.tmp (6 : Nat)) (.tmp (32 : Nat)), none⟩]
def bitmap_Turned_r8 : List SO := [⟨(some 33), .fieldAddr 28 (.tmp (6 : Nat)) 1, none⟩,
  ⟨(some 34), .load 3 (.tmp (33 : Nat)), none⟩,
  ⟨(some 35), .fieldAddr 28 (.tmp (6 : Nat)) 0, none⟩,
  ⟨(some 36), .load 3 (.tmp (35 : Nat)), none⟩,
  ⟨(some 37), .makeFunc (.func (82 : Nat)) #[] #[(.tmp (6 : Nat))], none⟩,
  ⟨(some 38), .call ⟨(.value (.func (77 : Nat))), #[(.tmp (34 : Nat)), (.tmp (36 : Nat)), (.tmp (37 : Nat))], #[3, 3, 123]⟩, none⟩,
  ⟨none, .store 28 (.tmp (5 : Nat)) (.tmp (38 : Nat)), none⟩]
def bitmap_Turned_r9 : List SO := [⟨(some 39), .binOp .add 3 (.tmp (30 : Nat)) (.const (.int .i64 1)) 3, none⟩,
  ⟨(some 30), .move (.tmp (39 : Nat)), none⟩]
def bitmap_Turned_r10 : List SO := [⟨(some 40), .load 28 (.tmp (5 : Nat)), none⟩,
  ⟨none, .store 28 (.tmp (4 : Nat)) (.tmp (40 : Nat)), none⟩]
def bitmap_Turned_c : SF := ⟨41, (.seq (.reg bitmap_Turned_r0)
  (.seq (.reg bitmap_Turned_r1)
  (.seq (.reg bitmap_Turned_r2)
  (.seq (.seq (.reg bitmap_Turned_r3)
  (.cond (.tmp (17 : Nat)) (.regd bitmap_Turned_r4 bitmap_Turned_a4) .skip))
  (.seq (.seq (.reg bitmap_Turned_r5)
  (.block 0 (.loop (.seq (.reg bitmap_Turned_r6)
  (.seq (.cond (.tmp (31 : Nat)) .skip (.exit 0))
  (.seq (.block 1 (.seq (.reg bitmap_Turned_r7)
  (.reg bitmap_Turned_r8)))
  (.reg bitmap_Turned_r9)))))))
  (.seq (.reg bitmap_Turned_r10)
  .ret)))))), [.cell 4 28]⟩
theorem bitmap_Turned_s : slimF Try.prog 55 = some bitmap_Turned_c := by kernel_rfl
abbrev bitmap_Turned_f : Nat := 55
/-- printworks/bitmap.stride -/
def bitmap_stride_r0 : List SO := [⟨(some 2), .assign (.const (.int .i64 0)), none⟩]
def bitmap_stride_r1 : List SO := [⟨(some 3), .move (.tmp (0 : Nat)), none⟩,
  ⟨(some 4), .binOp .add 3 (.tmp (3 : Nat)) (.const (.int .i64 7)) 3, none⟩,
  ⟨(some 5), .binOp .quo 3 (.tmp (4 : Nat)) (.const (.int .i64 8)) 3, none⟩,
  ⟨(some 2), .assign (.tmp (5 : Nat)), none⟩]
def bitmap_stride_c : SF := ⟨6, (.seq (.reg bitmap_stride_r0)
  (.seq (.reg bitmap_stride_r1)
  .ret)), [.tmp 2]⟩
theorem bitmap_stride_s : slimF Try.prog 56 = some bitmap_stride_c := by kernel_rfl
abbrev bitmap_stride_f : Nat := 56
/-- printworks/bitmap.Row -/
def bitmap_Row_r0 : List SO := [⟨(some 2), .box 97 (.tmp (0 : Nat)), none⟩,
  ⟨(some 3), .box 3 (.tmp (1 : Nat)), none⟩,
  ⟨(some 4), .assign (.const .nilFunc), none⟩]
def bitmap_Row_r1 : List SO := [⟨(some 5), .makeFunc (.func (85 : Nat)) #[] #[(.tmp (2 : Nat)), (.tmp (3 : Nat))], none⟩,
  ⟨(some 4), .assign (.tmp (5 : Nat)), none⟩]
def bitmap_Row_c : SF := ⟨6, (.seq (.reg bitmap_Row_r0)
  (.seq (.reg bitmap_Row_r1)
  .ret)), [.tmp 4]⟩
theorem bitmap_Row_s : slimF Try.prog 65 = some bitmap_Row_c := by kernel_rfl
abbrev bitmap_Row_f : Nat := 65
/-- printworks/bitmap.Blank -/
def bitmap_Blank_r0 : List SO := [⟨(some 4), .alloc 28, none⟩]
def bitmap_Blank_r1 : List SO := [⟨(some 5), .move (.tmp (0 : Nat)), none⟩,
  ⟨(some 6), .move (.tmp (1 : Nat)), none⟩,
  ⟨(some 7), .move (.tmp (0 : Nat)), none⟩,
  ⟨(some 8), .call ⟨(.value (.func (56 : Nat))), #[(.tmp (7 : Nat))], #[3]⟩, none⟩,
  ⟨(some 9), .move (.tmp (1 : Nat)), none⟩,
  ⟨(some 10), .binOp .mul 3 (.tmp (8 : Nat)) (.tmp (9 : Nat)) 3, none⟩,
  ⟨(some 11), .makeSlice 26 (.tmp (10 : Nat)) (.tmp (10 : Nat)), none⟩,
  ⟨(some 12), .build 28 #[(0, (.tmp (5 : Nat))), (1, (.tmp (6 : Nat))), (2, (.tmp (11 : Nat)))], none⟩,
  ⟨none, .store 28 (.tmp (4 : Nat)) (.tmp (12 : Nat)), none⟩]
def bitmap_Blank_c : SF := ⟨13, (.seq (.reg bitmap_Blank_r0)
  (.seq (.reg bitmap_Blank_r1)
  .ret)), [.cell 4 28]⟩
theorem bitmap_Blank_s : slimF Try.prog 67 = some bitmap_Blank_c := by kernel_rfl
abbrev bitmap_Blank_f : Nat := 67
/-- printworks/bitmap.Mark -/
def bitmap_Mark_r0 : List SO := [⟨(some 6), .move (.tmp (0 : Nat)), none⟩,
  ⟨(some 7), .nilCheck (.tmp (6 : Nat)), none⟩,
  ⟨(some 8), .fieldAddr 28 (.tmp (7 : Nat)) 2, none⟩,
  ⟨(some 9), .load 26 (.tmp (8 : Nat)), none⟩,
  ⟨(some 10), .move (.tmp (2 : Nat)), none⟩,
  ⟨(some 11), .move (.tmp (0 : Nat)), none⟩,
  ⟨(some 12), .nilCheck (.tmp (11 : Nat)), none⟩,
  ⟨(some 13), .fieldAddr 28 (.tmp (12 : Nat)) 0, none⟩,
  ⟨(some 14), .load 3 (.tmp (13 : Nat)), none⟩,
  ⟨(some 15), .call ⟨(.value (.func (56 : Nat))), #[(.tmp (14 : Nat))], #[3]⟩, none⟩,
  ⟨(some 16), .binOp .mul 3 (.tmp (10 : Nat)) (.tmp (15 : Nat)) 3, none⟩,
  ⟨(some 17), .move (.tmp (1 : Nat)), none⟩,
  ⟨(some 18), .binOp .quo 3 (.tmp (17 : Nat)) (.const (.int .i64 8)) 3, none⟩,
  ⟨(some 19), .binOp .add 3 (.tmp (16 : Nat)) (.tmp (18 : Nat)) 3, none⟩,
  ⟨(some 20), .indexAddr 26 (.tmp (9 : Nat)) (.tmp (19 : Nat)), none⟩,
  ⟨(some 21), .load 5 (.tmp (20 : Nat)), none⟩,
  ⟨(some 22), .move (.tmp (1 : Nat)), none⟩,
  ⟨(some 23), .binOp .rem 3 (.tmp (22 : Nat)) (.const (.int .i64 8)) 3, none⟩,
  ⟨(some 24), .binOp .shr 5 (.const (.int .u8 128)) (.tmp (23 : Nat)) 3, none⟩,
  ⟨(some 25), .binOp .or 5 (.tmp (21 : Nat)) (.tmp (24 : Nat)) 5, none⟩,
  ⟨(some 26), .indexAddr 26 (.tmp (9 : Nat)) (.tmp (19 : Nat)), none⟩,
  ⟨none, .store 5 (.tmp (26 : Nat)) (.tmp (25 : Nat)), none⟩]
def bitmap_Mark_a0 : List (List Nat) := [[], [0], [1], [2], [], [], [5], [6], [7], [8], [4, 9], [], [11], [10, 12], [3, 13], [14], [], [16], [17], [15, 18], [3, 13, 0, 1, 2, 3, 4, 5, 6, 7, 8, 9, 10, 11, 12, 13, 14, 15, 16, 17, 18, 19], [20, 19, 9, 0, 1, 2, 3, 4, 5, 6, 7, 8, 9, 10, 11, 12, 13, 14, 15, 16, 17, 18, 19]]
def bitmap_Mark_c : SF := ⟨27, (.regd bitmap_Mark_r0 bitmap_Mark_a0), []⟩
theorem bitmap_Mark_s : slimF Try.prog 68 = some bitmap_Mark_c := by kernel_rfl
abbrev bitmap_Mark_f : Nat := 68
/-- printworks/bitmap.Grown -/
def bitmap_Grown_r0 : List SO := [⟨(some 4), .alloc 28, none⟩]
def bitmap_Grown_r1 : List SO := [⟨(some 7), .move (.tmp (0 : Nat)), none⟩,
  ⟨(some 8), .nilCheck (.tmp (7 : Nat)), none⟩,
  ⟨(some 9), .load 28 (.tmp (8 : Nat)), none⟩,
  ⟨(some 5), .alloc 28, none⟩,
  ⟨none, .store 28 (.tmp (5 : Nat)) (.tmp (9 : Nat)), none⟩]
def bitmap_Grown_r2 : List SO := [⟨(some 10), .move (.tmp (0 : Nat)), none⟩,
  ⟨(some 11), .nilCheck (.tmp (10 : Nat)), none⟩,
  ⟨(some 12), .fieldAddr 28 (.tmp (11 : Nat)) 2, none⟩,
  ⟨(some 13), .load 26 (.tmp (12 : Nat)), none⟩,
  ⟨(some 14), .call ⟨(.builtin .append), #[(.const (.slice none 0 0)), (.tmp (13 : Nat))], #[26, 26]⟩, none⟩,
  ⟨(some 15), .fieldAddr 28 (.tmp (5 : Nat)) 2, none⟩,
  ⟨none, .store 26 (.tmp (15 : Nat)) (.tmp (14 : Nat)), none⟩]
def bitmap_Grown_r3 : List SO := [⟨(some 16), .move (.tmp (1 : Nat)), none⟩,
  ⟨(some 17), .move (.const (.int .i64 0)), none⟩]
def bitmap_Grown_r4 : List SO := [⟨(some 18), .binOp .lss 3 (.tmp (17 : Nat)) (.tmp (16 : Nat)) 3, none⟩]
def bitmap_Grown_r5 : List SO := [⟨(some 19), .load 28 (.tmp (5 : Nat)), none⟩,
  ⟨(some 6), .alloc 28, none⟩,
  ⟨none, .store 28 (.tmp (6 : Nat)) (.tmp (19 : Nat)), none⟩]
def bitmap_Grown_r6 : List SO := [⟨(some 20), .fieldAddr 28 (.tmp (6 : Nat)) 0, none⟩,
  ⟨(some 21), .load 3 (.tmp (20 : Nat)), none⟩,
  ⟨(some 22), .fieldAddr 28 (.tmp (6 : Nat)) 1, none⟩,
  ⟨(some 23), .load 3 (.tmp (22 : Nat)), none⟩,
  ⟨(some 24), .makeFunc (.func (86 : Nat)) #[] #[(.tmp (6 : Nat))], none⟩,
  ⟨(some 25), .call ⟨(.value (.func (77 : Nat))), #[(.tmp (21 : Nat)), (.tmp (23 : Nat)), (.tmp (24 : Nat))], #[3, 3, 123]⟩, none⟩,
  ⟨none, .store 28 (.tmp (5 : Nat)) (.tmp (25 : Nat)), none⟩]
def bitmap_Grown_r7 : List SO := [⟨(some 26), .binOp .add 3 (.tmp (17 : Nat)) (.const (.int .i64 1)) 3, none⟩,
  ⟨(some 17), .move (.tmp (26 : Nat)), none⟩]
def bitmap_Grown_r8 : List SO := [⟨(some 27), .load 28 (.tmp (5 : Nat)), none⟩,
  ⟨none, .store 28 (.tmp (4 : Nat)) (.tmp (27 : Nat)), none⟩]
def bitmap_Grown_c : SF := ⟨28, (.seq (.reg bitmap_Grown_r0)
  (.seq (.reg bitmap_Grown_r1)
  (.seq (.reg bitmap_Grown_r2)
  (.seq (.seq (.reg bitmap_Grown_r3)
  (.block 0 (.loop (.seq (.reg bitmap_Grown_r4)
  (.seq (.cond (.tmp (18 : Nat)) .skip (.exit 0))
  (.seq (.block 1 (.seq (.reg bitmap_Grown_r5)
  (.reg bitmap_Grown_r6)))
  (.reg bitmap_Grown_r7)))))))
  (.seq (.reg bitmap_Grown_r8)
  .ret))))), [.cell 4 28]⟩
theorem bitmap_Grown_s : slimF Try.prog 69 = some bitmap_Grown_c := by kernel_rfl
abbrev bitmap_Grown_f : Nat := 69
/-- printworks/bitmap.merge -/
def bitmap_merge_r0 : List SO := [⟨(some 3), .box 28 (.tmp (0 : Nat)), none⟩,
  ⟨(some 4), .box 28 (.tmp (1 : Nat)), none⟩,
  ⟨(some 6), .alloc 28, none⟩,
  ⟨(some 7), .assign (.const (.int .i64 0)), none⟩]
def bitmap_merge_r1 : List SO := [⟨(some 13), .load 28 (.tmp (3 : Nat)), none⟩,
  ⟨(some 14), .call ⟨(.value (.func (22 : Nat))), #[(.tmp (13 : Nat))], #[28]⟩, none⟩,
  ⟨(some 8), .assign (.tmp (14 : Nat)), none⟩]
def bitmap_merge_r2 : List SO := [⟨(some 15), .move (.tmp (8 : Nat)), none⟩,
  ⟨(some 16), .binOp .neq 32 (.tmp (15 : Nat)) (.const (.int .i64 0)) 32, none⟩]
def bitmap_merge_r3 : List SO := [⟨(some 17), .build 28 #[], none⟩,
  ⟨(some 18), .move (.tmp (8 : Nat)), none⟩,
  ⟨none, .store 28 (.tmp (6 : Nat)) (.tmp (17 : Nat)), none⟩,
  ⟨(some 7), .assign (.tmp (18 : Nat)), none⟩]
def bitmap_merge_r4 : List SO := [⟨(some 19), .load 28 (.tmp (4 : Nat)), none⟩,
  ⟨(some 20), .call ⟨(.value (.func (22 : Nat))), #[(.tmp (19 : Nat))], #[28]⟩, none⟩,
  ⟨(some 9), .assign (.tmp (20 : Nat)), none⟩]
def bitmap_merge_r5 : List SO := [⟨(some 21), .move (.tmp (9 : Nat)), none⟩,
  ⟨(some 22), .binOp .neq 32 (.tmp (21 : Nat)) (.const (.int .i64 0)) 32, none⟩]
def bitmap_merge_r6 : List SO := [⟨(some 23), .build 28 #[], none⟩,
  ⟨(some 24), .move (.tmp (9 : Nat)), none⟩,
  ⟨none, .store 28 (.tmp (6 : Nat)) (.tmp (23 : Nat)), none⟩,
  ⟨(some 7), .assign (.tmp (24 : Nat)), none⟩]
def bitmap_merge_r7 : List SO := [⟨(some 25), .fieldAddr 28 (.tmp (3 : Nat)) 0, none⟩,
  ⟨(some 26), .load 3 (.tmp (25 : Nat)), none⟩,
  ⟨(some 27), .fieldAddr 28 (.tmp (4 : Nat)) 0, none⟩,
  ⟨(some 28), .load 3 (.tmp (27 : Nat)), none⟩,
  ⟨(some 29), .binOp .neq 3 (.tmp (26 : Nat)) (.tmp (28 : Nat)) 3, none⟩,
  ⟨(some 30), .move (.tmp (29 : Nat)), none⟩,
  ⟨(some 31), .fieldAddr 28 (.tmp (3 : Nat)) 1, (some (30, false))⟩,
  ⟨(some 32), .load 3 (.tmp (31 : Nat)), (some (30, false))⟩,
  ⟨(some 33), .fieldAddr 28 (.tmp (4 : Nat)) 1, (some (30, false))⟩,
  ⟨(some 34), .load 3 (.tmp (33 : Nat)), (some (30, false))⟩,
  ⟨(some 35), .binOp .neq 3 (.tmp (32 : Nat)) (.tmp (34 : Nat)) 3, (some (30, false))⟩,
  ⟨(some 36), .pick (.tmp (30 : Nat)) (.const (.bool true)) (.tmp (35 : Nat)), none⟩]
def bitmap_merge_r8 : List SO := [⟨(some 37), .build 28 #[], none⟩,
  ⟨none, .store 28 (.tmp (6 : Nat)) (.tmp (37 : Nat)), none⟩,
  ⟨(some 7), .assign (.const (.int .i64 4)), none⟩]
def bitmap_merge_r9 : List SO := [⟨(some 38), .fieldAddr 28 (.tmp (3 : Nat)) 0, none⟩,
  ⟨(some 39), .load 3 (.tmp (38 : Nat)), none⟩,
  ⟨(some 40), .fieldAddr 28 (.tmp (3 : Nat)) 1, none⟩,
  ⟨(some 41), .load 3 (.tmp (40 : Nat)), none⟩,
  ⟨(some 42), .call ⟨(.value (.func (67 : Nat))), #[(.tmp (39 : Nat)), (.tmp (41 : Nat))], #[3, 3]⟩, none⟩,
  ⟨(some 10), .alloc 28, none⟩,
  ⟨none, .store 28 (.tmp (10 : Nat)) (.tmp (42 : Nat)), none⟩]
def bitmap_merge_r10 : List SO := [⟨(some 43), .fieldAddr 28 (.tmp (3 : Nat)) 2, none⟩,
  ⟨(some 44), .load 26 (.tmp (43 : Nat)), none⟩,
  ⟨(some 45), .call ⟨(.builtin .len), #[(.tmp (44 : Nat))], #[26]⟩, none⟩,
  ⟨(some 46), .move (.const (.int .i64 0)), none⟩]
def bitmap_merge_r11 : List SO := [⟨(some 47), .binOp .lss 3 (.tmp (46 : Nat)) (.tmp (45 : Nat)) 3, none⟩]
def bitmap_merge_r12 : List SO := [⟨(some 48), .move (.tmp (46 : Nat)), none⟩,
  ⟨(some 49), .indexAddr 26 (.tmp (44 : Nat)) (.tmp (46 : Nat)), none⟩,
  ⟨(some 50), .load 5 (.tmp (49 : Nat)), none⟩,
  ⟨(some 11), .assign (.tmp (48 : Nat)), none⟩,
  ⟨(some 12), .assign (.tmp (50 : Nat)), none⟩]
def bitmap_merge_r13 : List SO := [⟨(some 51), .fieldAddr 28 (.tmp (10 : Nat)) 2, none⟩,
  ⟨(some 52), .load 26 (.tmp (51 : Nat)), none⟩,
  ⟨(some 53), .move (.tmp (11 : Nat)), none⟩,
  ⟨(some 54), .move (.tmp (2 : Nat)), none⟩,
  ⟨(some 55), .move (.tmp (12 : Nat)), none⟩,
  ⟨(some 56), .fieldAddr 28 (.tmp (4 : Nat)) 2, none⟩,
  ⟨(some 57), .load 26 (.tmp (56 : Nat)), none⟩,
  ⟨(some 58), .move (.tmp (11 : Nat)), none⟩,
  ⟨(some 59), .indexAddr 26 (.tmp (57 : Nat)) (.tmp (58 : Nat)), none⟩,
  ⟨(some 60), .load 5 (.tmp (59 : Nat)), none⟩,
  ⟨(some 61), .call ⟨(.value (.tmp (54 : Nat))), #[(.tmp (55 : Nat)), (.tmp (60 : Nat))], #[5, 5]⟩, none⟩,
  ⟨(some 62), .indexAddr 26 (.tmp (52 : Nat)) (.tmp (53 : Nat)), none⟩,
  ⟨none, .store 5 (.tmp (62 : Nat)) (.tmp (61 : Nat)), none⟩]
def bitmap_merge_a13 : List (List Nat) := [[], [0], [], [], [], [], [5], [], [6, 7], [8], [3, 4, 9], [1, 2, 0, 1, 2, 3, 4, 5, 6, 7, 8, 9, 10], [11, 10, 10, 0, 1, 2, 3, 4, 5, 6, 7, 8, 9, 10]]
def bitmap_merge_r14 : List SO := [⟨(some 63), .binOp .add 3 (.tmp (46 : Nat)) (.const (.int .i64 1)) 3, none⟩,
  ⟨(some 46), .move (.tmp (63 : Nat)), none⟩]
def bitmap_merge_r15 : List SO := [⟨(some 64), .load 28 (.tmp (10 : Nat)), none⟩,
  ⟨none, .store 28 (.tmp (6 : Nat)) (.tmp (64 : Nat)), none⟩,
  ⟨(some 7), .assign (.const (.int .i64 0)), none⟩]
def bitmap_merge_c : SF := ⟨65, (.seq (.reg bitmap_merge_r0)
  (.seq (.seq (.reg bitmap_merge_r1)
  (.seq (.reg bitmap_merge_r2)
  (.cond (.tmp (16 : Nat)) (.seq (.reg bitmap_merge_r3)
  .ret) .skip)))
  (.seq (.seq (.reg bitmap_merge_r4)
  (.seq (.reg bitmap_merge_r5)
  (.cond (.tmp (22 : Nat)) (.seq (.reg bitmap_merge_r6)
  .ret) .skip)))
  (.seq (.seq (.reg bitmap_merge_r7)
  (.cond (.tmp (36 : Nat)) (.seq (.reg bitmap_merge_r8)
  .ret) .skip))
  (.seq (.reg bitmap_merge_r9)
  (.seq (.seq (.reg bitmap_merge_r10)
  (.block 0 (.loop (.seq (.reg bitmap_merge_r11)
  (.seq (.cond (.tmp (47 : Nat)) .skip (.exit 0))
  (.seq (.block 1 (.seq (.reg bitmap_merge_r12)
  (.regd bitmap_merge_r13 bitmap_merge_a13)))
  (.reg bitmap_merge_r14)))))))
  (.seq (.reg bitmap_merge_r15)
  .ret))))))), [.cell 6 28, .tmp 7]⟩
theorem bitmap_merge_s : slimF Try.prog 70 = some bitmap_merge_c := by kernel_rfl
abbrev bitmap_merge_f : Nat := 70
/-- printworks/bitmap.Or$1 -/
def bitmap_Or_1_r0 : List SO := [⟨(some 4), .assign (.const (.int .u8 0)), none⟩]
def bitmap_Or_1_r1 : List SO := [⟨(some 5), .move (.tmp (0 : Nat)), none⟩,
  ⟨(some 6), .move (.tmp (1 : Nat)), none⟩,
  ⟨(some 7), .binOp .or 5 (.tmp (5 : Nat)) (.tmp (6 : Nat)) 5, none⟩,
  ⟨(some 4), .assign (.tmp (7 : Nat)), none⟩]
def bitmap_Or_1_c : SF := ⟨8, (.seq (.reg bitmap_Or_1_r0)
  (.seq (.reg bitmap_Or_1_r1)
  .ret)), [.tmp 4]⟩
theorem bitmap_Or_1_s : slimF Try.prog 71 = some bitmap_Or_1_c := by kernel_rfl
abbrev bitmap_Or_1_f : Nat := 71
/-- printworks/bitmap.And$1 -/
def bitmap_And_1_r0 : List SO := [⟨(some 4), .assign (.const (.int .u8 0)), none⟩]
def bitmap_And_1_r1 : List SO := [⟨(some 5), .move (.tmp (0 : Nat)), none⟩,
  ⟨(some 6), .move (.tmp (1 : Nat)), none⟩,
  ⟨(some 7), .binOp .and 5 (.tmp (5 : Nat)) (.tmp (6 : Nat)) 5, none⟩,
  ⟨(some 4), .assign (.tmp (7 : Nat)), none⟩]
def bitmap_And_1_c : SF := ⟨8, (.seq (.reg bitmap_And_1_r0)
  (.seq (.reg bitmap_And_1_r1)
  .ret)), [.tmp 4]⟩
theorem bitmap_And_1_s : slimF Try.prog 72 = some bitmap_And_1_c := by kernel_rfl
abbrev bitmap_And_1_f : Nat := 72
/-- printworks/bitmap.Minus$1 -/
def bitmap_Minus_1_r0 : List SO := [⟨(some 4), .assign (.const (.int .u8 0)), none⟩]
def bitmap_Minus_1_r1 : List SO := [⟨(some 5), .move (.tmp (0 : Nat)), none⟩,
  ⟨(some 6), .move (.tmp (1 : Nat)), none⟩,
  ⟨(some 7), .binOp .andNot 5 (.tmp (5 : Nat)) (.tmp (6 : Nat)) 5, none⟩,
  ⟨(some 4), .assign (.tmp (7 : Nat)), none⟩]
def bitmap_Minus_1_c : SF := ⟨8, (.seq (.reg bitmap_Minus_1_r0)
  (.seq (.reg bitmap_Minus_1_r1)
  .ret)), [.tmp 4]⟩
theorem bitmap_Minus_1_s : slimF Try.prog 73 = some bitmap_Minus_1_c := by kernel_rfl
abbrev bitmap_Minus_1_f : Nat := 73
/-- printworks/bitmap.FromPlate$1 -/
def bitmap_FromPlate_1_r0 : List SO := [⟨(some 6), .assign (.const (.bool false)), none⟩]
def bitmap_FromPlate_1_r1 : List SO := [⟨(some 7), .fieldAddr 80 (.tmp (2 : Nat)) 2, none⟩,
  ⟨(some 8), .load 26 (.tmp (7 : Nat)), none⟩,
  ⟨(some 9), .move (.tmp (1 : Nat)), none⟩,
  ⟨(some 10), .fieldAddr 80 (.tmp (2 : Nat)) 0, none⟩,
  ⟨(some 11), .load 3 (.tmp (10 : Nat)), none⟩,
  ⟨(some 12), .binOp .mul 3 (.tmp (9 : Nat)) (.tmp (11 : Nat)) 3, none⟩,
  ⟨(some 13), .move (.tmp (0 : Nat)), none⟩,
  ⟨(some 14), .binOp .add 3 (.tmp (12 : Nat)) (.tmp (13 : Nat)) 3, none⟩,
  ⟨(some 15), .indexAddr 26 (.tmp (8 : Nat)) (.tmp (14 : Nat)), none⟩,
  ⟨(some 16), .load 5 (.tmp (15 : Nat)), none⟩,
  ⟨(some 17), .convert 5 3 (.tmp (16 : Nat)), none⟩,
  ⟨(some 18), .load 3 (.tmp (3 : Nat)), none⟩,
  ⟨(some 19), .binOp .geq 3 (.tmp (17 : Nat)) (.tmp (18 : Nat)) 3, none⟩,
  ⟨(some 6), .assign (.tmp (19 : Nat)), none⟩]
def bitmap_FromPlate_1_a1 : List (List Nat) := [[], [0], [], [], [3], [2, 4], [], [5, 6], [1, 7], [8], [9], [], [10, 11], [12, 0, 1, 2, 3, 4, 5, 6, 7, 8, 9, 10, 11, 12]]
def bitmap_FromPlate_1_c : SF := ⟨20, (.seq (.reg bitmap_FromPlate_1_r0)
  (.seq (.regd bitmap_FromPlate_1_r1 bitmap_FromPlate_1_a1)
  .ret)), [.tmp 6]⟩
theorem bitmap_FromPlate_1_s : slimF Try.prog 78 = some bitmap_FromPlate_1_c := by kernel_rfl
abbrev bitmap_FromPlate_1_f : Nat := 78
/-- printworks/bitmap.from -/
def bitmap_from_r0 : List SO := [⟨(some 6), .alloc 28, none⟩]
def bitmap_from_r1 : List SO := [⟨(some 10), .move (.tmp (0 : Nat)), none⟩,
  ⟨(some 11), .move (.tmp (1 : Nat)), none⟩,
  ⟨(some 12), .call ⟨(.value (.func (67 : Nat))), #[(.tmp (10 : Nat)), (.tmp (11 : Nat))], #[3, 3]⟩, none⟩,
  ⟨(some 7), .alloc 28, none⟩,
  ⟨none, .store 28 (.tmp (7 : Nat)) (.tmp (12 : Nat)), none⟩]
def bitmap_from_r2 : List SO := [⟨(some 13), .move (.tmp (1 : Nat)), none⟩,
  ⟨(some 14), .move (.const (.int .i64 0)), none⟩]
def bitmap_from_r3 : List SO := [⟨(some 15), .binOp .lss 3 (.tmp (14 : Nat)) (.tmp (13 : Nat)) 3, none⟩]
def bitmap_from_r4 : List SO := [⟨(some 16), .move (.tmp (14 : Nat)), none⟩,
  ⟨(some 8), .assign (.tmp (16 : Nat)), none⟩]
def bitmap_from_r5 : List SO := [⟨(some 17), .move (.tmp (0 : Nat)), none⟩,
  ⟨(some 18), .move (.const (.int .i64 0)), none⟩]
def bitmap_from_r6 : List SO := [⟨(some 19), .binOp .lss 3 (.tmp (18 : Nat)) (.tmp (17 : Nat)) 3, none⟩]
def bitmap_from_r7 : List SO := [⟨(some 20), .move (.tmp (18 : Nat)), none⟩,
  ⟨(some 9), .assign (.tmp (20 : Nat)), none⟩]
def bitmap_from_r8 : List SO := [⟨(some 21), .move (.tmp (2 : Nat)), none⟩,
  ⟨(some 22), .move (.tmp (9 : Nat)), none⟩,
  ⟨(some 23), .move (.tmp (8 : Nat)), none⟩,
  ⟨(some 24), .call ⟨(.value (.tmp (21 : Nat))), #[(.tmp (22 : Nat)), (.tmp (23 : Nat))], #[3, 3]⟩, none⟩]
def bitmap_from_r9 : List SO := [⟨(some 25), .move (.tmp (9 : Nat)), none⟩,
  ⟨(some 26), .move (.tmp (8 : Nat)), none⟩,
  ⟨(some 27), .call ⟨(.value (.func (68 : Nat))), #[(.tmp (7 : Nat)), (.tmp (25 : Nat)), (.tmp (26 : Nat))], #[97, 3, 3]⟩, none⟩]
def bitmap_from_r10 : List SO := [⟨(some 28), .binOp .add 3 (.tmp (18 : Nat)) (.const (.int .i64 1)) 3, none⟩,
  ⟨(some 18), .move (.tmp (28 : Nat)), none⟩]
def bitmap_from_r11 : List SO := [⟨(some 29), .binOp .add 3 (.tmp (14 : Nat)) (.const (.int .i64 1)) 3, none⟩,
  ⟨(some 14), .move (.tmp (29 : Nat)), none⟩]
def bitmap_from_r12 : List SO := [⟨(some 30), .load 28 (.tmp (7 : Nat)), none⟩,
  ⟨none, .store 28 (.tmp (6 : Nat)) (.tmp (30 : Nat)), none⟩]
def bitmap_from_c : SF := ⟨31, (.seq (.reg bitmap_from_r0)
  (.seq (.reg bitmap_from_r1)
  (.seq (.seq (.reg bitmap_from_r2)
  (.block 0 (.loop (.seq (.reg bitmap_from_r3)
  (.seq (.cond (.tmp (15 : Nat)) .skip (.exit 0))
  (.seq (.block 1 (.seq (.reg bitmap_from_r4)
  (.seq (.reg bitmap_from_r5)
  (.block 2 (.loop (.seq (.reg bitmap_from_r6)
  (.seq (.cond (.tmp (19 : Nat)) .skip (.exit 2))
  (.seq (.block 3 (.seq (.reg bitmap_from_r7)
  (.seq (.reg bitmap_from_r8)
  (.cond (.tmp (24 : Nat)) (.reg bitmap_from_r9) .skip))))
  (.reg bitmap_from_r10)))))))))
  (.reg bitmap_from_r11)))))))
  (.seq (.reg bitmap_from_r12)
  .ret)))), [.cell 6 28]⟩
theorem bitmap_from_s : slimF Try.prog 77 = some bitmap_from_c := by kernel_rfl
abbrev bitmap_from_f : Nat := 77
/-- printworks/bitmap.Turned$1 -/
def bitmap_Turned_1_r0 : List SO := [⟨(some 5), .assign (.const (.bool false)), none⟩]
def bitmap_Turned_1_r1 : List SO := [⟨(some 6), .load 97 (.tmp (2 : Nat)), none⟩,
  ⟨(some 7), .load 97 (.tmp (2 : Nat)), none⟩,
  ⟨(some 8), .nilCheck (.tmp (7 : Nat)), none⟩,
  ⟨(some 9), .fieldAddr 28 (.tmp (8 : Nat)) 0, none⟩,
  ⟨(some 10), .load 3 (.tmp (9 : Nat)), none⟩,
  ⟨(some 11), .binOp .sub 3 (.tmp (10 : Nat)) (.const (.int .i64 1)) 3, none⟩,
  ⟨(some 12), .move (.tmp (0 : Nat)), none⟩,
  ⟨(some 13), .binOp .sub 3 (.tmp (11 : Nat)) (.tmp (12 : Nat)) 3, none⟩,
  ⟨(some 14), .move (.tmp (1 : Nat)), none⟩,
  ⟨(some 15), .call ⟨(.value (.func (52 : Nat))), #[(.tmp (6 : Nat)), (.tmp (13 : Nat)), (.tmp (14 : Nat))], #[97, 3, 3]⟩, none⟩,
  ⟨(some 5), .assign (.tmp (15 : Nat)), none⟩]
def bitmap_Turned_1_a1 : List (List Nat) := [[], [], [1], [2], [3], [4], [], [5, 6], [], [0, 7, 8], [9, 9, 0, 1, 2, 3, 4, 5, 6, 7, 8, 9]]
def bitmap_Turned_1_c : SF := ⟨16, (.seq (.reg bitmap_Turned_1_r0)
  (.seq (.regd bitmap_Turned_1_r1 bitmap_Turned_1_a1)
  .ret)), [.tmp 5]⟩
theorem bitmap_Turned_1_s : slimF Try.prog 81 = some bitmap_Turned_1_c := by kernel_rfl
abbrev bitmap_Turned_1_f : Nat := 81
/-- printworks/bitmap.Turned$2 -/
def bitmap_Turned_2_r0 : List SO := [⟨(some 5), .assign (.const (.bool false)), none⟩]
def bitmap_Turned_2_r1 : List SO := [⟨(some 6), .move (.tmp (1 : Nat)), none⟩,
  ⟨(some 7), .fieldAddr 28 (.tmp (2 : Nat)) 1, none⟩,
  ⟨(some 8), .load 3 (.tmp (7 : Nat)), none⟩,
  ⟨(some 9), .binOp .sub 3 (.tmp (8 : Nat)) (.const (.int .i64 1)) 3, none⟩,
  ⟨(some 10), .move (.tmp (0 : Nat)), none⟩,
  ⟨(some 11), .binOp .sub 3 (.tmp (9 : Nat)) (.tmp (10 : Nat)) 3, none⟩,
  ⟨(some 12), .call ⟨(.value (.func (52 : Nat))), #[(.tmp (2 : Nat)), (.tmp (6 : Nat)), (.tmp (11 : Nat))], #[97, 3, 3]⟩, none⟩,
  ⟨(some 5), .assign (.tmp (12 : Nat)), none⟩]
def bitmap_Turned_2_c : SF := ⟨13, (.seq (.reg bitmap_Turned_2_r0)
  (.seq (.reg bitmap_Turned_2_r1)
  .ret)), [.tmp 5]⟩
theorem bitmap_Turned_2_s : slimF Try.prog 82 = some bitmap_Turned_2_c := by kernel_rfl
abbrev bitmap_Turned_2_f : Nat := 82
/-- printworks/bitmap.Row$1 -/
def bitmap_Row_1_r0 : List SO := [⟨(some 4), .assign (.const (.int .i64 0)), none⟩]
def bitmap_Row_1_r1 : List SO := [⟨(some 6), .move (.tmp (4 : Nat)), none⟩,
  ⟨(some 7), .load 97 (.tmp (1 : Nat)), none⟩,
  ⟨(some 8), .nilCheck (.tmp (7 : Nat)), none⟩,
  ⟨(some 9), .fieldAddr 28 (.tmp (8 : Nat)) 0, none⟩,
  ⟨(some 10), .load 3 (.tmp (9 : Nat)), none⟩,
  ⟨(some 11), .binOp .lss 3 (.tmp (6 : Nat)) (.tmp (10 : Nat)) 3, none⟩]
def bitmap_Row_1_r2 : List SO := [⟨(some 12), .load 97 (.tmp (1 : Nat)), none⟩,
  ⟨(some 13), .move (.tmp (4 : Nat)), none⟩,
  ⟨(some 14), .load 3 (.tmp (2 : Nat)), none⟩,
  ⟨(some 15), .call ⟨(.value (.func (52 : Nat))), #[(.tmp (12 : Nat)), (.tmp (13 : Nat)), (.tmp (14 : Nat))], #[97, 3, 3]⟩, none⟩,
  ⟨(some 16), .unOp .not 4 (.tmp (15 : Nat)), none⟩]
def bitmap_Row_1_r3 : List SO := [⟨(some 17), .move (.tmp (4 : Nat)), none⟩,
  ⟨(some 18), .binOp .add 3 (.tmp (17 : Nat)) (.const (.int .i64 1)) 3, none⟩,
  ⟨(some 4), .assign (.tmp (18 : Nat)), none⟩]
def bitmap_Row_1_r4 : List SO := [⟨(some 19), .move (.tmp (4 : Nat)), none⟩,
  ⟨(some 5), .assign (.tmp (19 : Nat)), none⟩]
def bitmap_Row_1_r5 : List SO := [⟨(some 20), .move (.tmp (4 : Nat)), none⟩,
  ⟨(some 21), .load 97 (.tmp (1 : Nat)), none⟩,
  ⟨(some 22), .nilCheck (.tmp (21 : Nat)), none⟩,
  ⟨(some 23), .fieldAddr 28 (.tmp (22 : Nat)) 0, none⟩,
  ⟨(some 24), .load 3 (.tmp (23 : Nat)), none⟩,
  ⟨(some 25), .binOp .lss 3 (.tmp (20 : Nat)) (.tmp (24 : Nat)) 3, none⟩,
  ⟨(some 26), .move (.tmp (25 : Nat)), none⟩,
  ⟨(some 27), .load 97 (.tmp (1 : Nat)), (some (26, true))⟩,
  ⟨(some 28), .move (.tmp (4 : Nat)), (some (26, true))⟩,
  ⟨(some 29), .load 3 (.tmp (2 : Nat)), (some (26, true))⟩,
  ⟨(some 30), .call ⟨(.value (.func (52 : Nat))), #[(.tmp (27 : Nat)), (.tmp (28 : Nat)), (.tmp (29 : Nat))], #[97, 3, 3]⟩, (some (26, true))⟩,
  ⟨(some 31), .pick (.tmp (26 : Nat)) (.tmp (30 : Nat)) (.const (.bool false)), none⟩]
def bitmap_Row_1_r6 : List SO := [⟨(some 32), .move (.tmp (4 : Nat)), none⟩,
  ⟨(some 33), .binOp .add 3 (.tmp (32 : Nat)) (.const (.int .i64 1)) 3, none⟩,
  ⟨(some 4), .assign (.tmp (33 : Nat)), none⟩]
def bitmap_Row_1_r7 : List SO := [⟨(some 34), .move (.tmp (0 : Nat)), none⟩,
  ⟨(some 35), .load 3 (.tmp (2 : Nat)), none⟩,
  ⟨(some 36), .move (.tmp (5 : Nat)), none⟩,
  ⟨(some 37), .move (.tmp (4 : Nat)), none⟩,
  ⟨(some 38), .build 66 #[(0, (.tmp (35 : Nat))), (1, (.tmp (36 : Nat))), (2, (.tmp (37 : Nat)))], none⟩,
  ⟨(some 39), .call ⟨(.value (.tmp (34 : Nat))), #[(.tmp (38 : Nat))], #[66]⟩, none⟩,
  ⟨(some 40), .unOp .not 4 (.tmp (39 : Nat)), none⟩]
def bitmap_Row_1_c : SF := ⟨41, (.seq (.reg bitmap_Row_1_r0)
  (.block 0 (.loop (.seq (.seq (.reg bitmap_Row_1_r1)
  (.cond (.tmp (11 : Nat)) .skip (.exit 0)))
  (.block 1 (.seq (.seq (.reg bitmap_Row_1_r2)
  (.cond (.tmp (16 : Nat)) (.seq (.reg bitmap_Row_1_r3)
  (.exit 1)) .skip))
  (.seq (.reg bitmap_Row_1_r4)
  (.seq (.block 2 (.loop (.seq (.seq (.reg bitmap_Row_1_r5)
  (.cond (.tmp (31 : Nat)) .skip (.exit 2)))
  (.block 3 (.reg bitmap_Row_1_r6)))))
  (.seq (.reg bitmap_Row_1_r7)
  (.cond (.tmp (40 : Nat)) .ret .skip)))))))))), []⟩
theorem bitmap_Row_1_s : slimF Try.prog 85 = some bitmap_Row_1_c := by kernel_rfl
abbrev bitmap_Row_1_f : Nat := 85
/-- printworks/bitmap.Grown$1 -/
def bitmap_Grown_1_r0 : List SO := [⟨(some 5), .assign (.const (.bool false)), none⟩]
def bitmap_Grown_1_r1 : List SO := [⟨(some 6), .move (.tmp (0 : Nat)), none⟩,
  ⟨(some 7), .move (.tmp (1 : Nat)), none⟩,
  ⟨(some 8), .call ⟨(.value (.func (52 : Nat))), #[(.tmp (2 : Nat)), (.tmp (6 : Nat)), (.tmp (7 : Nat))], #[97, 3, 3]⟩, none⟩,
  ⟨(some 9), .move (.tmp (8 : Nat)), none⟩,
  ⟨(some 10), .move (.tmp (0 : Nat)), (some (9, false))⟩,
  ⟨(some 11), .binOp .sub 3 (.tmp (10 : Nat)) (.const (.int .i64 1)) 3, (some (9, false))⟩,
  ⟨(some 12), .move (.tmp (1 : Nat)), (some (9, false))⟩,
  ⟨(some 13), .call ⟨(.value (.func (52 : Nat))), #[(.tmp (2 : Nat)), (.tmp (11 : Nat)), (.tmp (12 : Nat))], #[97, 3, 3]⟩, (some (9, false))⟩,
  ⟨(some 14), .pick (.tmp (9 : Nat)) (.const (.bool true)) (.tmp (13 : Nat)), none⟩,
  ⟨(some 15), .move (.tmp (14 : Nat)), none⟩,
  ⟨(some 16), .move (.tmp (0 : Nat)), (some (15, false))⟩,
  ⟨(some 17), .binOp .add 3 (.tmp (16 : Nat)) (.const (.int .i64 1)) 3, (some (15, false))⟩,
  ⟨(some 18), .move (.tmp (1 : Nat)), (some (15, false))⟩,
  ⟨(some 19), .call ⟨(.value (.func (52 : Nat))), #[(.tmp (2 : Nat)), (.tmp (17 : Nat)), (.tmp (18 : Nat))], #[97, 3, 3]⟩, (some (15, false))⟩,
  ⟨(some 20), .pick (.tmp (15 : Nat)) (.const (.bool true)) (.tmp (19 : Nat)), none⟩,
  ⟨(some 21), .move (.tmp (20 : Nat)), none⟩,
  ⟨(some 22), .move (.tmp (0 : Nat)), (some (21, false))⟩,
  ⟨(some 23), .move (.tmp (1 : Nat)), (some (21, false))⟩,
  ⟨(some 24), .binOp .sub 3 (.tmp (23 : Nat)) (.const (.int .i64 1)) 3, (some (21, false))⟩,
  ⟨(some 25), .call ⟨(.value (.func (52 : Nat))), #[(.tmp (2 : Nat)), (.tmp (22 : Nat)), (.tmp (24 : Nat))], #[97, 3, 3]⟩, (some (21, false))⟩,
  ⟨(some 26), .pick (.tmp (21 : Nat)) (.const (.bool true)) (.tmp (25 : Nat)), none⟩,
  ⟨(some 27), .move (.tmp (26 : Nat)), none⟩,
  ⟨(some 28), .move (.tmp (0 : Nat)), (some (27, false))⟩,
  ⟨(some 29), .move (.tmp (1 : Nat)), (some (27, false))⟩,
  ⟨(some 30), .binOp .add 3 (.tmp (29 : Nat)) (.const (.int .i64 1)) 3, (some (27, false))⟩,
  ⟨(some 31), .call ⟨(.value (.func (52 : Nat))), #[(.tmp (2 : Nat)), (.tmp (28 : Nat)), (.tmp (30 : Nat))], #[97, 3, 3]⟩, (some (27, false))⟩,
  ⟨(some 32), .pick (.tmp (27 : Nat)) (.const (.bool true)) (.tmp (31 : Nat)), none⟩,
  ⟨(some 5), .assign (.tmp (32 : Nat)), none⟩]
def bitmap_Grown_1_c : SF := ⟨33, (.seq (.reg bitmap_Grown_1_r0)
  (.seq (.reg bitmap_Grown_1_r1)
  .ret)), [.tmp 5]⟩
theorem bitmap_Grown_1_s : slimF Try.prog 86 = some bitmap_Grown_1_c := by kernel_rfl
abbrev bitmap_Grown_1_f : Nat := 86

def tbl_bitmap : List (Nat × SF) := [(21, bitmap_Turn_c), (22, bitmap_Check_c), (33, bitmap_Runs_c), (34, bitmap_Count_c), (35, bitmap_FromRuns_c), (36, bitmap_Spread_c), (37, bitmap_Or_c), (38, bitmap_And_c), (39, bitmap_Minus_c), (45, bitmap_FromPlate_c), (52, bitmap_Is_c), (53, bitmap_Set_c), (55, bitmap_Turned_c), (56, bitmap_stride_c), (65, bitmap_Row_c), (67, bitmap_Blank_c), (68, bitmap_Mark_c), (69, bitmap_Grown_c), (70, bitmap_merge_c), (71, bitmap_Or_1_c), (72, bitmap_And_1_c), (73, bitmap_Minus_1_c), (78, bitmap_FromPlate_1_c), (77, bitmap_from_c), (81, bitmap_Turned_1_c), (82, bitmap_Turned_2_c), (85, bitmap_Row_1_c), (86, bitmap_Grown_1_c)]
theorem tbl_bitmap_ok : okT Try.prog tbl_bitmap := ⟨bitmap_Turn_s, bitmap_Check_s, bitmap_Runs_s, bitmap_Count_s, bitmap_FromRuns_s, bitmap_Spread_s, bitmap_Or_s, bitmap_And_s, bitmap_Minus_s, bitmap_FromPlate_s, bitmap_Is_s, bitmap_Set_s, bitmap_Turned_s, bitmap_stride_s, bitmap_Row_s, bitmap_Blank_s, bitmap_Mark_s, bitmap_Grown_s, bitmap_merge_s, bitmap_Or_1_s, bitmap_And_1_s, bitmap_Minus_1_s, bitmap_FromPlate_1_s, bitmap_from_s, bitmap_Turned_1_s, bitmap_Turned_2_s, bitmap_Row_1_s, bitmap_Grown_1_s, trivial⟩

end Go.Proofs.Ytanhalcbghbpaaa
namespace Go.Proofs.Ytanhalcbghbpaaa
open Go Go.Lite
set_option linter.unusedVariables false

/-- math/bits.OnesCount8 -/
def math_bits_OnesCount8_r0 : List SO := [⟨(some 2), .assign (.const (.int .i64 0)), none⟩]
def math_bits_OnesCount8_r1 : List SO := [⟨(some 3), .move (.tmp (0 : Nat)), none⟩,
  ⟨(some 4), .index 9 (.const (.string ⟨([0, 1, 1, 2, 1, 2, 2, 3, 1, 2, 2, 3, 2, 3, 3, 4, 1, 2, 2, 3, 2, 3, 3, 4, 2, 3, 3, 4, 3, 4, 4, 5, 1, 2, 2, 3, 2, 3, 3, 4, 2, 3, 3, 4, 3, 4, 4, 5, 2, 3, 3, 4, 3, 4, 4, 5, 3, 4, 4, 5, 4, 5, 5, 6, 1, 2, 2, 3, 2, 3, 3, 4, 2, 3, 3, 4, 3, 4, 4, 5, 2, 3, 3, 4, 3, 4, 4, 5, 3, 4, 4, 5, 4, 5, 5, 6, 2, 3, 3, 4, 3, 4, 4, 5, 3, 4, 4, 5, 4, 5, 5, 6, 3, 4, 4, 5, 4, 5, 5, 6, 4, 5, 5, 6, 5, 6, 6, 7, 1, 2, 2, 3, 2, 3, 3, 4, 2, 3, 3, 4, 3, 4, 4, 5, 2, 3, 3, 4, 3, 4, 4, 5, 3, 4, 4, 5, 4, 5, 5, 6, 2, 3, 3, 4, 3, 4, 4, 5, 3, 4, 4, 5, 4, 5, 5, 6, 3, 4, 4, 5, 4, 5, 5, 6, 4, 5, 5, 6, 5, 6, 6, 7, 2, 3, 3, 4, 3, 4, 4, 5, 3, 4, 4, 5, 4, 5, 5, 6, 3, 4, 4, 5, 4, 5, 5, 6, 4, 5, 5, 6, 5, 6, 6, 7, 3, 4, 4, 5, 4, 5, 5, 6, 4, 5, 5, 6, 5, 6, 6, 7, 4, 5, 5, 6, 5, 6, 6, 7, 5, 6, 6, 7, 6, 7, 7, 8] : List UInt8).toArray⟩)) (.tmp (3 : Nat)), none⟩,
  ⟨(some 5), .convert 5 3 (.tmp (4 : Nat)), none⟩,
  ⟨(some 2), .assign (.tmp (5 : Nat)), none⟩]
def math_bits_OnesCount8_c : SF := ⟨6, (.seq (.reg math_bits_OnesCount8_r0)
  (.seq (.reg math_bits_OnesCount8_r1)
  .ret)), [.tmp 2]⟩
theorem math_bits_OnesCount8_s : slimF Try.prog 66 = some math_bits_OnesCount8_c := by kernel_rfl
abbrev math_bits_OnesCount8_f : Nat := 66

def tbl_bits : List (Nat × SF) := [(66, math_bits_OnesCount8_c)]
theorem tbl_bits_ok : okT Try.prog tbl_bits := ⟨math_bits_OnesCount8_s, trivial⟩

end Go.Proofs.Ytanhalcbghbpaaa
namespace Go.Proofs.Ytanhalcbghbpaaa
open Go Go.Lite
set_option linter.unusedVariables false

/-- printworks/printworksref2.Mod -/
def R2_Mod_r0 : List SO := [⟨(some 4), .assign (.const (.int .i64 0)), none⟩]
def R2_Mod_r1 : List SO := [⟨(some 5), .move (.tmp (0 : Nat)), none⟩,
  ⟨(some 6), .move (.tmp (1 : Nat)), none⟩,
  ⟨(some 7), .move (.tmp (0 : Nat)), none⟩,
  ⟨(some 8), .move (.tmp (1 : Nat)), none⟩,
  ⟨(some 9), .call ⟨(.value (.func (51 : Nat))), #[(.tmp (7 : Nat)), (.tmp (8 : Nat))], #[3, 3]⟩, none⟩,
  ⟨(some 10), .binOp .mul 3 (.tmp (6 : Nat)) (.tmp (9 : Nat)) 3, none⟩,
  ⟨(some 11), .binOp .sub 3 (.tmp (5 : Nat)) (.tmp (10 : Nat)) 3, none⟩,
  ⟨(some 4), .assign (.tmp (11 : Nat)), none⟩]
def R2_Mod_c : SF := ⟨12, (.seq (.reg R2_Mod_r0)
  (.seq (.reg R2_Mod_r1)
  .ret)), [.tmp 4]⟩
theorem R2_Mod_s : slimF Try.prog 16 = some R2_Mod_c := by kernel_rfl
abbrev R2_Mod_f : Nat := 16
/-- printworks/printworksref2.Drawn -/
def R2_Drawn_r0 : List SO := [⟨(some 6), .alloc 28, none⟩]
def R2_Drawn_r1 : List SO := [⟨(some 11), .move (.tmp (0 : Nat)), none⟩,
  ⟨(some 12), .binOp .add 3 (.tmp (11 : Nat)) (.const (.int .i64 7)) 3, none⟩,
  ⟨(some 13), .binOp .quo 3 (.tmp (12 : Nat)) (.const (.int .i64 8)) 3, none⟩,
  ⟨(some 7), .assign (.tmp (13 : Nat)), none⟩]
def R2_Drawn_r2 : List SO := [⟨(some 14), .move (.tmp (0 : Nat)), none⟩,
  ⟨(some 15), .move (.tmp (1 : Nat)), none⟩,
  ⟨(some 16), .move (.tmp (7 : Nat)), none⟩,
  ⟨(some 17), .move (.tmp (1 : Nat)), none⟩,
  ⟨(some 18), .binOp .mul 3 (.tmp (16 : Nat)) (.tmp (17 : Nat)) 3, none⟩,
  ⟨(some 19), .makeSlice 26 (.tmp (18 : Nat)) (.tmp (18 : Nat)), none⟩,
  ⟨(some 20), .build 28 #[(0, (.tmp (14 : Nat))), (1, (.tmp (15 : Nat))), (2, (.tmp (19 : Nat)))], none⟩,
  ⟨(some 8), .alloc 28, none⟩,
  ⟨none, .store 28 (.tmp (8 : Nat)) (.tmp (20 : Nat)), none⟩]
def R2_Drawn_r3 : List SO := [⟨(some 21), .move (.tmp (2 : Nat)), none⟩,
  ⟨(some 22), .call ⟨(.builtin .len), #[(.tmp (21 : Nat))], #[25]⟩, none⟩,
  ⟨(some 23), .move (.const (.int .i64 0)), none⟩]
def R2_Drawn_r4 : List SO := [⟨(some 24), .binOp .lss 3 (.tmp (23 : Nat)) (.tmp (22 : Nat)) 3, none⟩]
def R2_Drawn_r5 : List SO := [⟨(some 25), .move (.tmp (23 : Nat)), none⟩,
  ⟨(some 26), .indexAddr 25 (.tmp (21 : Nat)) (.tmp (23 : Nat)), none⟩,
  ⟨(some 27), .load 4 (.tmp (26 : Nat)), none⟩,
  ⟨(some 9), .assign (.tmp (25 : Nat)), none⟩,
  ⟨(some 10), .assign (.tmp (27 : Nat)), none⟩]
def R2_Drawn_r6 : List SO := [⟨(some 28), .move (.tmp (10 : Nat)), none⟩]
def R2_Drawn_r7 : List SO := [⟨(some 29), .fieldAddr 28 (.tmp (8 : Nat)) 2, none⟩,
  ⟨(some 30), .load 26 (.tmp (29 : Nat)), none⟩,
  ⟨(some 31), .move (.tmp (9 : Nat)), none⟩,
  ⟨(some 32), .move (.tmp (0 : Nat)), none⟩,
  ⟨(some 33), .binOp .quo 3 (.tmp (31 : Nat)) (.tmp (32 : Nat)) 3, none⟩,
  ⟨(some 34), .move (.tmp (7 : Nat)), none⟩,
  ⟨(some 35), .binOp .mul 3 (.tmp (33 : Nat)) (.tmp (34 : Nat)) 3, none⟩,
  ⟨(some 36), .move (.tmp (9 : Nat)), none⟩,
  ⟨(some 37), .move (.tmp (0 : Nat)), none⟩,
  ⟨(some 38), .binOp .rem 3 (.tmp (36 : Nat)) (.tmp (37 : Nat)) 3, none⟩,
  ⟨(some 39), .binOp .quo 3 (.tmp (38 : Nat)) (.const (.int .i64 8)) 3, none⟩,
  ⟨(some 40), .binOp .add 3 (.tmp (35 : Nat)) (.tmp (39 : Nat)) 3, none⟩,
  ⟨(some 41), .indexAddr 26 (.tmp (30 : Nat)) (.tmp (40 : Nat)), none⟩,
  ⟨(some 42), .load 5 (.tmp (41 : Nat)), none⟩,
  ⟨(some 43), .move (.tmp (9 : Nat)), none⟩,
  ⟨(some 44), .move (.tmp (0 : Nat)), none⟩,
  ⟨(some 45), .binOp .rem 3 (.tmp (43 : Nat)) (.tmp (44 : Nat)) 3, none⟩,
  ⟨(some 46), .binOp .rem 3 (.tmp (45 : Nat)) (.const (.int .i64 8)) 3, none⟩,
  ⟨(some 47), .binOp .shr 5 (.const (.int .u8 128)) (.tmp (46 : Nat)) 3, none⟩,
  ⟨(some 48), .binOp .or 5 (.tmp (42 : Nat)) (.tmp (47 : Nat)) 5, none⟩,
  ⟨(some 49), .indexAddr 26 (.tmp (30 : Nat)) (.tmp (40 : Nat)), none⟩,
  ⟨none, .store 5 (.tmp (49 : Nat)) (.tmp (48 : Nat)), none⟩]
def R2_Drawn_a7 : List (List Nat) := [[], [0], [], [], [2, 3], [], [4, 5], [], [], [7, 8], [9], [6, 10], [1, 11], [12], [], [], [14, 15], [16], [17], [13, 18], [1, 11, 0, 1, 2, 3, 4, 5, 6, 7, 8, 9, 10, 11, 12, 13, 14, 15, 16, 17, 18, 19], [20, 19, 0, 1, 2, 3, 4, 5, 6, 7, 8, 9, 10, 11, 12, 13, 14, 15, 16, 17, 18, 19]]
def R2_Drawn_r8 : List SO := [⟨(some 50), .binOp .add 3 (.tmp (23 : Nat)) (.const (.int .i64 1)) 3, none⟩,
  ⟨(some 23), .move (.tmp (50 : Nat)), none⟩]
def R2_Drawn_r9 : List SO := [⟨(some 51), .load 28 (.tmp (8 : Nat)), none⟩,
  ⟨none, .store 28 (.tmp (6 : Nat)) (.tmp (51 : Nat)), none⟩]
def R2_Drawn_c : SF := ⟨52, (.seq (.reg R2_Drawn_r0)
  (.seq (.reg R2_Drawn_r1)
  (.seq (.reg R2_Drawn_r2)
  (.seq (.seq (.reg R2_Drawn_r3)
  (.block 0 (.loop (.seq (.reg R2_Drawn_r4)
  (.seq (.cond (.tmp (24 : Nat)) .skip (.exit 0))
  (.seq (.block 1 (.seq (.reg R2_Drawn_r5)
  (.seq (.reg R2_Drawn_r6)
  (.cond (.tmp (28 : Nat)) (.regd R2_Drawn_r7 R2_Drawn_a7) .skip))))
  (.reg R2_Drawn_r8)))))))
  (.seq (.reg R2_Drawn_r9)
  .ret))))), [.cell 6 28]⟩
theorem R2_Drawn_s : slimF Try.prog 17 = some R2_Drawn_c := by kernel_rfl
abbrev R2_Drawn_f : Nat := 17
/-- printworks/printworksref2.NoBits -/
def R2_NoBits_r0 : List SO := [⟨(some 1), .box 28 (.tmp (0 : Nat)), none⟩,
  ⟨(some 2), .assign (.const (.bool false)), none⟩]
def R2_NoBits_r1 : List SO := [⟨(some 3), .fieldAddr 28 (.tmp (1 : Nat)) 0, none⟩,
  ⟨(some 4), .load 3 (.tmp (3 : Nat)), none⟩,
  ⟨(some 5), .binOp .eql 3 (.tmp (4 : Nat)) (.const (.int .i64 0)) 3, none⟩,
  ⟨(some 6), .move (.tmp (5 : Nat)), none⟩,
  ⟨(some 7), .fieldAddr 28 (.tmp (1 : Nat)) 1, (some (6, true))⟩,
  ⟨(some 8), .load 3 (.tmp (7 : Nat)), (some (6, true))⟩,
  ⟨(some 9), .binOp .eql 3 (.tmp (8 : Nat)) (.const (.int .i64 0)) 3, (some (6, true))⟩,
  ⟨(some 10), .pick (.tmp (6 : Nat)) (.tmp (9 : Nat)) (.const (.bool false)), none⟩,
  ⟨(some 11), .move (.tmp (10 : Nat)), none⟩,
  ⟨(some 12), .fieldAddr 28 (.tmp (1 : Nat)) 2, (some (11, true))⟩,
  ⟨(some 13), .load 26 (.tmp (12 : Nat)), (some (11, true))⟩,
  ⟨(some 14), .call ⟨(.builtin .len), #[(.tmp (13 : Nat))], #[26]⟩, (some (11, true))⟩,
  ⟨(some 15), .binOp .eql 3 (.tmp (14 : Nat)) (.const (.int .i64 0)) 3, (some (11, true))⟩,
  ⟨(some 16), .pick (.tmp (11 : Nat)) (.tmp (15 : Nat)) (.const (.bool false)), none⟩,
  ⟨(some 2), .assign (.tmp (16 : Nat)), none⟩]
def R2_NoBits_c : SF := ⟨17, (.seq (.reg R2_NoBits_r0)
  (.seq (.reg R2_NoBits_r1)
  .ret)), [.tmp 2]⟩
theorem R2_NoBits_s : slimF Try.prog 23 = some R2_NoBits_c := by kernel_rfl
abbrev R2_NoBits_f : Nat := 23
/-- printworks/printworksref2.SameBits -/
def R2_SameBits_r0 : List SO := [⟨(some 2), .box 28 (.tmp (0 : Nat)), none⟩,
  ⟨(some 3), .box 28 (.tmp (1 : Nat)), none⟩,
  ⟨(some 4), .assign (.const (.bool false)), none⟩]
def R2_SameBits_r1 : List SO := [⟨(some 5), .fieldAddr 28 (.tmp (2 : Nat)) 0, none⟩,
  ⟨(some 6), .load 3 (.tmp (5 : Nat)), none⟩,
  ⟨(some 7), .fieldAddr 28 (.tmp (3 : Nat)) 0, none⟩,
  ⟨(some 8), .load 3 (.tmp (7 : Nat)), none⟩,
  ⟨(some 9), .binOp .eql 3 (.tmp (6 : Nat)) (.tmp (8 : Nat)) 3, none⟩,
  ⟨(some 10), .move (.tmp (9 : Nat)), none⟩,
  ⟨(some 11), .fieldAddr 28 (.tmp (2 : Nat)) 1, (some (10, true))⟩,
  ⟨(some 12), .load 3 (.tmp (11 : Nat)), (some (10, true))⟩,
  ⟨(some 13), .fieldAddr 28 (.tmp (3 : Nat)) 1, (some (10, true))⟩,
  ⟨(some 14), .load 3 (.tmp (13 : Nat)), (some (10, true))⟩,
  ⟨(some 15), .binOp .eql 3 (.tmp (12 : Nat)) (.tmp (14 : Nat)) 3, (some (10, true))⟩,
  ⟨(some 16), .pick (.tmp (10 : Nat)) (.tmp (15 : Nat)) (.const (.bool false)), none⟩,
  ⟨(some 17), .move (.tmp (16 : Nat)), none⟩,
  ⟨(some 18), .fieldAddr 28 (.tmp (2 : Nat)) 2, (some (17, true))⟩,
  ⟨(some 19), .load 26 (.tmp (18 : Nat)), (some (17, true))⟩,
  ⟨(some 20), .fieldAddr 28 (.tmp (3 : Nat)) 2, (some (17, true))⟩,
  ⟨(some 21), .load 26 (.tmp (20 : Nat)), (some (17, true))⟩,
  ⟨(some 22), .call ⟨(.value (.func (50 : Nat))), #[(.tmp (19 : Nat)), (.tmp (21 : Nat))], #[26, 26]⟩, (some (17, true))⟩,
  ⟨(some 23), .pick (.tmp (17 : Nat)) (.tmp (22 : Nat)) (.const (.bool false)), none⟩,
  ⟨(some 4), .assign (.tmp (23 : Nat)), none⟩]
def R2_SameBits_c : SF := ⟨24, (.seq (.reg R2_SameBits_r0)
  (.seq (.reg R2_SameBits_r1)
  .ret)), [.tmp 4]⟩
theorem R2_SameBits_s : slimF Try.prog 24 = some R2_SameBits_c := by kernel_rfl
abbrev R2_SameBits_f : Nat := 24
/-- printworks/printworksref2.SameInts -/
def R2_SameInts_r0 : List SO := [⟨(some 4), .assign (.const (.bool false)), none⟩]
def R2_SameInts_r1 : List SO := [⟨(some 6), .move (.tmp (0 : Nat)), none⟩,
  ⟨(some 7), .call ⟨(.builtin .len), #[(.tmp (6 : Nat))], #[22]⟩, none⟩,
  ⟨(some 8), .move (.tmp (1 : Nat)), none⟩,
  ⟨(some 9), .call ⟨(.builtin .len), #[(.tmp (8 : Nat))], #[22]⟩, none⟩,
  ⟨(some 10), .binOp .neq 3 (.tmp (7 : Nat)) (.tmp (9 : Nat)) 3, none⟩]
def R2_SameInts_r2 : List SO := [⟨(some 4), .assign (.const (.bool false)), none⟩]
def R2_SameInts_r3 : List SO := [⟨(some 11), .move (.tmp (0 : Nat)), none⟩,
  ⟨(some 12), .call ⟨(.builtin .len), #[(.tmp (11 : Nat))], #[22]⟩, none⟩,
  ⟨(some 13), .move (.const (.int .i64 0)), none⟩]
def R2_SameInts_r4 : List SO := [⟨(some 14), .binOp .lss 3 (.tmp (13 : Nat)) (.tmp (12 : Nat)) 3, none⟩]
def R2_SameInts_r5 : List SO := [⟨(some 15), .move (.tmp (13 : Nat)), none⟩,
  ⟨(some 5), .assign (.tmp (15 : Nat)), none⟩]
def R2_SameInts_r6 : List SO := [⟨(some 16), .move (.tmp (0 : Nat)), none⟩,
  ⟨(some 17), .move (.tmp (5 : Nat)), none⟩,
  ⟨(some 18), .indexAddr 22 (.tmp (16 : Nat)) (.tmp (17 : Nat)), none⟩,
  ⟨(some 19), .load 3 (.tmp (18 : Nat)), none⟩,
  ⟨(some 20), .move (.tmp (1 : Nat)), none⟩,
  ⟨(some 21), .move (.tmp (5 : Nat)), none⟩,
  ⟨(some 22), .indexAddr 22 (.tmp (20 : Nat)) (.tmp (21 : Nat)), none⟩,
  ⟨(some 23), .load 3 (.tmp (22 : Nat)), none⟩,
  ⟨(some 24), .binOp .neq 3 (.tmp (19 : Nat)) (.tmp (23 : Nat)) 3, none⟩]
def R2_SameInts_a6 : List (List Nat) := [[], [], [0, 1], [2], [], [], [4, 5], [6], [3, 7]]
def R2_SameInts_r7 : List SO := [⟨(some 4), .assign (.const (.bool false)), none⟩]
def R2_SameInts_r8 : List SO := [⟨(some 25), .binOp .add 3 (.tmp (13 : Nat)) (.const (.int .i64 1)) 3, none⟩,
  ⟨(some 13), .move (.tmp (25 : Nat)), none⟩]
def R2_SameInts_r9 : List SO := [⟨(some 4), .assign (.const (.bool true)), none⟩]
def R2_SameInts_c : SF := ⟨26, (.seq (.reg R2_SameInts_r0)
  (.seq (.seq (.reg R2_SameInts_r1)
  (.cond (.tmp (10 : Nat)) (.seq (.reg R2_SameInts_r2)
  .ret) .skip))
  (.seq (.seq (.reg R2_SameInts_r3)
  (.block 0 (.loop (.seq (.reg R2_SameInts_r4)
  (.seq (.cond (.tmp (14 : Nat)) .skip (.exit 0))
  (.seq (.block 1 (.seq (.reg R2_SameInts_r5)
  (.seq (.regd R2_SameInts_r6 R2_SameInts_a6)
  (.cond (.tmp (24 : Nat)) (.seq (.reg R2_SameInts_r7)
  .ret) .skip))))
  (.reg R2_SameInts_r8)))))))
  (.seq (.reg R2_SameInts_r9)
  .ret)))), [.tmp 4]⟩
theorem R2_SameInts_s : slimF Try.prog 32 = some R2_SameInts_c := by kernel_rfl
abbrev R2_SameInts_f : Nat := 32
/-- printworks/printworksref2.SameBytes -/
def R2_SameBytes_r0 : List SO := [⟨(some 4), .assign (.const (.bool false)), none⟩]
def R2_SameBytes_r1 : List SO := [⟨(some 5), .move (.tmp (0 : Nat)), none⟩,
  ⟨(some 6), .convert 26 9 (.tmp (5 : Nat)), none⟩,
  ⟨(some 7), .move (.tmp (1 : Nat)), none⟩,
  ⟨(some 8), .convert 26 9 (.tmp (7 : Nat)), none⟩,
  ⟨(some 9), .binOp .eql 9 (.tmp (6 : Nat)) (.tmp (8 : Nat)) 9, none⟩,
  ⟨(some 4), .assign (.tmp (9 : Nat)), none⟩]
def R2_SameBytes_c : SF := ⟨10, (.seq (.reg R2_SameBytes_r0)
  (.seq (.reg R2_SameBytes_r1)
  .ret)), [.tmp 4]⟩
theorem R2_SameBytes_s : slimF Try.prog 50 = some R2_SameBytes_c := by kernel_rfl
abbrev R2_SameBytes_f : Nat := 50
/-- printworks/printworksref2.Floor -/
def R2_Floor_r0 : List SO := [⟨(some 4), .assign (.const (.int .i64 0)), none⟩]
def R2_Floor_r1 : List SO := [⟨(some 6), .move (.tmp (0 : Nat)), none⟩,
  ⟨(some 7), .move (.tmp (1 : Nat)), none⟩,
  ⟨(some 8), .binOp .quo 3 (.tmp (6 : Nat)) (.tmp (7 : Nat)) 3, none⟩,
  ⟨(some 5), .assign (.tmp (8 : Nat)), none⟩]
def R2_Floor_r2 : List SO := [⟨(some 9), .move (.tmp (5 : Nat)), none⟩,
  ⟨(some 10), .move (.tmp (1 : Nat)), none⟩,
  ⟨(some 11), .binOp .mul 3 (.tmp (9 : Nat)) (.tmp (10 : Nat)) 3, none⟩,
  ⟨(some 12), .move (.tmp (0 : Nat)), none⟩,
  ⟨(some 13), .binOp .gtr 3 (.tmp (11 : Nat)) (.tmp (12 : Nat)) 3, none⟩]
def R2_Floor_r3 : List SO := [⟨(some 14), .move (.tmp (5 : Nat)), none⟩,
  ⟨(some 15), .binOp .sub 3 (.tmp (14 : Nat)) (.const (.int .i64 1)) 3, none⟩,
  ⟨(some 5), .assign (.tmp (15 : Nat)), none⟩]
def R2_Floor_r4 : List SO := [⟨(some 16), .move (.tmp (5 : Nat)), none⟩,
  ⟨(some 4), .assign (.tmp (16 : Nat)), none⟩]
def R2_Floor_c : SF := ⟨17, (.seq (.reg R2_Floor_r0)
  (.seq (.reg R2_Floor_r1)
  (.seq (.seq (.reg R2_Floor_r2)
  (.cond (.tmp (13 : Nat)) (.reg R2_Floor_r3) .skip))
  (.seq (.reg R2_Floor_r4)
  .ret)))), [.tmp 4]⟩
theorem R2_Floor_s : slimF Try.prog 51 = some R2_Floor_c := by kernel_rfl
abbrev R2_Floor_f : Nat := 51

def tbl_R2 : List (Nat × SF) := [(16, R2_Mod_c), (17, R2_Drawn_c), (23, R2_NoBits_c), (24, R2_SameBits_c), (32, R2_SameInts_c), (50, R2_SameBytes_c), (51, R2_Floor_c)]
theorem tbl_R2_ok : okT Try.prog tbl_R2 := ⟨R2_Mod_s, R2_Drawn_s, R2_NoBits_s, R2_SameBits_s, R2_SameInts_s, R2_SameBytes_s, R2_Floor_s, trivial⟩

end Go.Proofs.Ytanhalcbghbpaaa
namespace Go.Proofs.Ytanhalcbghbpaaa
open Go Go.Lite
set_option linter.unusedVariables false

/-- printworks/printworkskeep2.stripWorks -/
def K2_stripWorks_r0 : List SO := [⟨(some 0), .assign (.const (.bool false)), none⟩]
def K2_stripWorks_r1 : List SO := [⟨(some 8), .call ⟨(.value (.func (43 : Nat))), #[(.const (.int .i64 1)), (.const (.int .i64 2)), (.const (.int .i64 20))], #[3, 3, 3]⟩, none⟩,
  ⟨(some 7), .move (.tmp (8 : Nat)), none⟩,
  ⟨(some 9), .extract (.tmp (7 : Nat)) 0, none⟩,
  ⟨(some 10), .extract (.tmp (7 : Nat)) 1, none⟩,
  ⟨(some 1), .assign (.tmp (9 : Nat)), none⟩,
  ⟨(some 2), .assign (.tmp (10 : Nat)), none⟩]
def K2_stripWorks_r2 : List SO := [⟨(some 12), .call ⟨(.value (.func (49 : Nat))), #[(.const (.int .i64 1))], #[3]⟩, none⟩,
  ⟨(some 11), .move (.tmp (12 : Nat)), none⟩,
  ⟨(some 13), .extract (.tmp (11 : Nat)) 0, none⟩,
  ⟨(some 14), .extract (.tmp (11 : Nat)) 1, none⟩,
  ⟨(some 3), .alloc 28, none⟩,
  ⟨none, .store 28 (.tmp (3 : Nat)) (.tmp (13 : Nat)), none⟩,
  ⟨(some 4), .assign (.tmp (14 : Nat)), none⟩]
def K2_stripWorks_r3 : List SO := [⟨(some 16), .buildSlice 26 4 #[(0, (.const (.int .u8 0))), (1, (.const (.int .u8 16))), (2, (.const (.int .u8 56))), (3, (.const (.int .u8 16)))], none⟩,
  ⟨(some 17), .build 28 #[(0, (.const (.int .i64 5))), (1, (.const (.int .i64 4))), (2, (.tmp (16 : Nat)))], none⟩,
  ⟨(some 18), .call ⟨(.value (.func (18 : Nat))), #[(.tmp (17 : Nat)), (.const (.int .i64 1))], #[28, 3]⟩, none⟩,
  ⟨(some 15), .move (.tmp (18 : Nat)), none⟩,
  ⟨(some 19), .extract (.tmp (15 : Nat)) 0, none⟩,
  ⟨(some 20), .extract (.tmp (15 : Nat)) 1, none⟩,
  ⟨(some 5), .alloc 31, none⟩,
  ⟨none, .store 31 (.tmp (5 : Nat)) (.tmp (19 : Nat)), none⟩,
  ⟨(some 6), .assign (.tmp (20 : Nat)), none⟩]
def K2_stripWorks_r4 : List SO := [⟨(some 21), .move (.tmp (2 : Nat)), none⟩,
  ⟨(some 22), .binOp .eql 32 (.tmp (21 : Nat)) (.const (.int .i64 0)) 32, none⟩,
  ⟨(some 23), .move (.tmp (22 : Nat)), none⟩,
  ⟨(some 24), .move (.tmp (1 : Nat)), (some (23, true))⟩,
  ⟨(some 25), .call ⟨(.builtin .len), #[(.tmp (24 : Nat))], #[74]⟩, (some (23, true))⟩,
  ⟨(some 26), .binOp .eql 3 (.tmp (25 : Nat)) (.const (.int .i64 4)) 3, (some (23, true))⟩,
  ⟨(some 27), .pick (.tmp (23 : Nat)) (.tmp (26 : Nat)) (.const (.bool false)), none⟩,
  ⟨(some 28), .move (.tmp (27 : Nat)), none⟩,
  ⟨(some 29), .move (.tmp (1 : Nat)), (some (28, true))⟩,
  ⟨(some 30), .indexAddr 74 (.tmp (29 : Nat)) (.const (.int .i64 3)), (some (28, true))⟩,
  ⟨(some 31), .load 94 (.tmp (30 : Nat)), (some (28, true))⟩,
  ⟨(some 32), .build 94 #[(0, (.const (.int .i64 15))), (1, (.const (.int .i64 5))), (2, (.const (.int .i64 1))), (4, (.const (.int .i64 1)))], (some (28, true))⟩,
  ⟨(some 33), .binOp .eql 94 (.tmp (31 : Nat)) (.tmp (32 : Nat)) 94, (some (28, true))⟩,
  ⟨(some 34), .pick (.tmp (28 : Nat)) (.tmp (33 : Nat)) (.const (.bool false)), none⟩,
  ⟨(some 35), .move (.tmp (34 : Nat)), none⟩,
  ⟨(some 36), .move (.tmp (4 : Nat)), (some (35, true))⟩,
  ⟨(some 37), .binOp .eql 32 (.tmp (36 : Nat)) (.const (.int .i64 0)) 32, (some (35, true))⟩,
  ⟨(some 38), .pick (.tmp (35 : Nat)) (.tmp (37 : Nat)) (.const (.bool false)), none⟩,
  ⟨(some 39), .move (.tmp (38 : Nat)), none⟩,
  ⟨(some 40), .fieldAddr 28 (.tmp (3 : Nat)) 2, (some (39, true))⟩,
  ⟨(some 41), .load 26 (.tmp (40 : Nat)), (some (39, true))⟩,
  ⟨(some 42), .buildSlice 26 3 #[(0, (.const (.int .u8 64))), (1, (.const (.int .u8 224))), (2, (.const (.int .u8 64)))], (some (39, true))⟩,
  ⟨(some 43), .call ⟨(.value (.func (50 : Nat))), #[(.tmp (41 : Nat)), (.tmp (42 : Nat))], #[26, 26]⟩, (some (39, true))⟩,
  ⟨(some 44), .pick (.tmp (39 : Nat)) (.tmp (43 : Nat)) (.const (.bool false)), none⟩,
  ⟨(some 45), .move (.tmp (44 : Nat)), none⟩,
  ⟨(some 46), .move (.tmp (6 : Nat)), (some (45, true))⟩,
  ⟨(some 47), .binOp .eql 32 (.tmp (46 : Nat)) (.const (.int .i64 0)) 32, (some (45, true))⟩,
  ⟨(some 48), .pick (.tmp (45 : Nat)) (.tmp (47 : Nat)) (.const (.bool false)), none⟩,
  ⟨(some 49), .move (.tmp (48 : Nat)), none⟩,
  ⟨(some 50), .load 31 (.tmp (5 : Nat)), (some (49, true))⟩,
  ⟨(some 51), .build 31 #[(0, (.const (.int .i64 3))), (1, (.const (.int .i64 2)))], (some (49, true))⟩,
  ⟨(some 52), .binOp .eql 31 (.tmp (50 : Nat)) (.tmp (51 : Nat)) 31, (some (49, true))⟩,
  ⟨(some 53), .pick (.tmp (49 : Nat)) (.tmp (52 : Nat)) (.const (.bool false)), none⟩,
  ⟨(some 0), .assign (.tmp (53 : Nat)), none⟩]
def K2_stripWorks_c : SF := ⟨54, (.seq (.reg K2_stripWorks_r0)
  (.seq (.reg K2_stripWorks_r1)
  (.seq (.reg K2_stripWorks_r2)
  (.seq (.reg K2_stripWorks_r3)
  (.seq (.reg K2_stripWorks_r4)
  .ret))))), [.tmp 0]⟩
theorem K2_stripWorks_s : slimF Try.prog 15 = some K2_stripWorks_c := by kernel_rfl
abbrev K2_stripWorks_f : Nat := 15
/-- printworks/printworkskeep2.bitmapWorks -/
def K2_bitmapWorks_r0 : List SO := [⟨(some 0), .assign (.const (.bool false)), none⟩]
def K2_bitmapWorks_r1 : List SO := [⟨(some 12), .buildSlice 26 2 #[(0, (.const (.int .u8 0))), (1, (.const (.int .u8 0)))], none⟩,
  ⟨(some 13), .build 28 #[(0, (.const (.int .i64 10))), (1, (.const (.int .i64 1))), (2, (.tmp (12 : Nat)))], none⟩,
  ⟨(some 14), .call ⟨(.value (.func (53 : Nat))), #[(.tmp (13 : Nat)), (.const (.int .i64 9)), (.const (.int .i64 0)), (.const (.bool true))], #[28, 3, 3, 4]⟩, none⟩,
  ⟨(some 11), .move (.tmp (14 : Nat)), none⟩,
  ⟨(some 15), .extract (.tmp (11 : Nat)) 0, none⟩,
  ⟨(some 16), .extract (.tmp (11 : Nat)) 1, none⟩,
  ⟨(some 1), .alloc 28, none⟩,
  ⟨none, .store 28 (.tmp (1 : Nat)) (.tmp (15 : Nat)), none⟩,
  ⟨(some 2), .assign (.tmp (16 : Nat)), none⟩]
def K2_bitmapWorks_r2 : List SO := [⟨(some 18), .call ⟨(.value (.func (54 : Nat))), #[], #[]⟩, none⟩,
  ⟨(some 19), .call ⟨(.value (.func (34 : Nat))), #[(.tmp (18 : Nat))], #[28]⟩, none⟩,
  ⟨(some 17), .move (.tmp (19 : Nat)), none⟩,
  ⟨(some 20), .extract (.tmp (17 : Nat)) 0, none⟩,
  ⟨(some 21), .extract (.tmp (17 : Nat)) 1, none⟩,
  ⟨(some 3), .assign (.tmp (20 : Nat)), none⟩,
  ⟨(some 4), .assign (.tmp (21 : Nat)), none⟩]
def K2_bitmapWorks_r3 : List SO := [⟨(some 23), .call ⟨(.value (.func (54 : Nat))), #[], #[]⟩, none⟩,
  ⟨(some 24), .call ⟨(.value (.func (21 : Nat))), #[(.tmp (23 : Nat)), (.const (.int .i64 1))], #[28, 3]⟩, none⟩,
  ⟨(some 22), .move (.tmp (24 : Nat)), none⟩,
  ⟨(some 25), .extract (.tmp (22 : Nat)) 0, none⟩,
  ⟨(some 26), .extract (.tmp (22 : Nat)) 1, none⟩,
  ⟨(some 5), .alloc 28, none⟩,
  ⟨none, .store 28 (.tmp (5 : Nat)) (.tmp (25 : Nat)), none⟩,
  ⟨(some 6), .assign (.tmp (26 : Nat)), none⟩]
def K2_bitmapWorks_r4 : List SO := [⟨(some 28), .call ⟨(.value (.func (54 : Nat))), #[], #[]⟩, none⟩,
  ⟨(some 29), .call ⟨(.value (.func (33 : Nat))), #[(.tmp (28 : Nat))], #[28]⟩, none⟩,
  ⟨(some 27), .move (.tmp (29 : Nat)), none⟩,
  ⟨(some 30), .extract (.tmp (27 : Nat)) 0, none⟩,
  ⟨(some 31), .extract (.tmp (27 : Nat)) 1, none⟩,
  ⟨(some 7), .assign (.tmp (30 : Nat)), none⟩,
  ⟨(some 8), .assign (.tmp (31 : Nat)), none⟩]
def K2_bitmapWorks_r5 : List SO := [⟨(some 33), .call ⟨(.value (.func (54 : Nat))), #[], #[]⟩, none⟩,
  ⟨(some 34), .call ⟨(.value (.func (36 : Nat))), #[(.tmp (33 : Nat)), (.const (.int .i64 1))], #[28, 3]⟩, none⟩,
  ⟨(some 32), .move (.tmp (34 : Nat)), none⟩,
  ⟨(some 35), .extract (.tmp (32 : Nat)) 0, none⟩,
  ⟨(some 36), .extract (.tmp (32 : Nat)) 1, none⟩,
  ⟨(some 9), .alloc 28, none⟩,
  ⟨none, .store 28 (.tmp (9 : Nat)) (.tmp (35 : Nat)), none⟩,
  ⟨(some 10), .assign (.tmp (36 : Nat)), none⟩]
def K2_bitmapWorks_r6 : List SO := [⟨(some 37), .move (.tmp (2 : Nat)), none⟩,
  ⟨(some 38), .binOp .eql 32 (.tmp (37 : Nat)) (.const (.int .i64 0)) 32, none⟩,
  ⟨(some 39), .move (.tmp (38 : Nat)), none⟩,
  ⟨(some 40), .fieldAddr 28 (.tmp (1 : Nat)) 2, (some (39, true))⟩,
  ⟨(some 41), .load 26 (.tmp (40 : Nat)), (some (39, true))⟩,
  ⟨(some 42), .buildSlice 26 2 #[(0, (.const (.int .u8 0))), (1, (.const (.int .u8 64)))], (some (39, true))⟩,
  ⟨(some 43), .call ⟨(.value (.func (50 : Nat))), #[(.tmp (41 : Nat)), (.tmp (42 : Nat))], #[26, 26]⟩, (some (39, true))⟩,
  ⟨(some 44), .pick (.tmp (39 : Nat)) (.tmp (43 : Nat)) (.const (.bool false)), none⟩,
  ⟨(some 45), .move (.tmp (44 : Nat)), none⟩,
  ⟨(some 46), .move (.tmp (4 : Nat)), (some (45, true))⟩,
  ⟨(some 47), .binOp .eql 32 (.tmp (46 : Nat)) (.const (.int .i64 0)) 32, (some (45, true))⟩,
  ⟨(some 48), .pick (.tmp (45 : Nat)) (.tmp (47 : Nat)) (.const (.bool false)), none⟩,
  ⟨(some 49), .move (.tmp (48 : Nat)), none⟩,
  ⟨(some 50), .move (.tmp (3 : Nat)), (some (49, true))⟩,
  ⟨(some 51), .binOp .eql 3 (.tmp (50 : Nat)) (.const (.int .i64 3)) 3, (some (49, true))⟩,
  ⟨(some 52), .pick (.tmp (49 : Nat)) (.tmp (51 : Nat)) (.const (.bool false)), none⟩,
  ⟨(some 53), .move (.tmp (52 : Nat)), none⟩,
  ⟨(some 54), .move (.tmp (6 : Nat)), (some (53, true))⟩,
  ⟨(some 55), .binOp .eql 32 (.tmp (54 : Nat)) (.const (.int .i64 0)) 32, (some (53, true))⟩,
  ⟨(some 56), .pick (.tmp (53 : Nat)) (.tmp (55 : Nat)) (.const (.bool false)), none⟩,
  ⟨(some 57), .move (.tmp (56 : Nat)), none⟩,
  ⟨(some 58), .load 28 (.tmp (5 : Nat)), (some (57, true))⟩,
  ⟨(some 59), .buildSlice 26 5 #[(0, (.const (.int .u8 64))), (1, (.const (.int .u8 0))), (2, (.const (.int .u8 0))), (3, (.const (.int .u8 64))), (4, (.const (.int .u8 128)))], (some (57, true))⟩,
  ⟨(some 60), .build 28 #[(0, (.const (.int .i64 2))), (1, (.const (.int .i64 5))), (2, (.tmp (59 : Nat)))], (some (57, true))⟩,
  ⟨(some 61), .call ⟨(.value (.func (24 : Nat))), #[(.tmp (58 : Nat)), (.tmp (60 : Nat))], #[28, 28]⟩, (some (57, true))⟩,
  ⟨(some 62), .pick (.tmp (57 : Nat)) (.tmp (61 : Nat)) (.const (.bool false)), none⟩,
  ⟨(some 63), .move (.tmp (62 : Nat)), none⟩,
  ⟨(some 64), .move (.tmp (8 : Nat)), (some (63, true))⟩,
  ⟨(some 65), .binOp .eql 32 (.tmp (64 : Nat)) (.const (.int .i64 0)) 32, (some (63, true))⟩,
  ⟨(some 66), .pick (.tmp (63 : Nat)) (.tmp (65 : Nat)) (.const (.bool false)), none⟩,
  ⟨(some 67), .move (.tmp (66 : Nat)), none⟩,
  ⟨(some 68), .move (.tmp (7 : Nat)), (some (67, true))⟩,
  ⟨(some 69), .call ⟨(.builtin .len), #[(.tmp (68 : Nat))], #[60]⟩, (some (67, true))⟩,
  ⟨(some 70), .binOp .eql 3 (.tmp (69 : Nat)) (.const (.int .i64 3)) 3, (some (67, true))⟩,
  ⟨(some 71), .pick (.tmp (67 : Nat)) (.tmp (70 : Nat)) (.const (.bool false)), none⟩,
  ⟨(some 72), .move (.tmp (71 : Nat)), none⟩,
  ⟨(some 73), .move (.tmp (7 : Nat)), (some (72, true))⟩,
  ⟨(some 74), .indexAddr 60 (.tmp (73 : Nat)) (.const (.int .i64 2)), (some (72, true))⟩,
  ⟨(some 75), .load 66 (.tmp (74 : Nat)), (some (72, true))⟩,
  ⟨(some 76), .build 66 #[(0, (.const (.int .i64 1))), (1, (.const (.int .i64 4))), (2, (.const (.int .i64 5)))], (some (72, true))⟩,
  ⟨(some 77), .binOp .eql 66 (.tmp (75 : Nat)) (.tmp (76 : Nat)) 66, (some (72, true))⟩,
  ⟨(some 78), .pick (.tmp (72 : Nat)) (.tmp (77 : Nat)) (.const (.bool false)), none⟩,
  ⟨(some 79), .move (.tmp (78 : Nat)), none⟩,
  ⟨(some 80), .move (.tmp (10 : Nat)), (some (79, true))⟩,
  ⟨(some 81), .binOp .eql 32 (.tmp (80 : Nat)) (.const (.int .i64 0)) 32, (some (79, true))⟩,
  ⟨(some 82), .pick (.tmp (79 : Nat)) (.tmp (81 : Nat)) (.const (.bool false)), none⟩,
  ⟨(some 83), .move (.tmp (82 : Nat)), none⟩,
  ⟨(some 84), .fieldAddr 28 (.tmp (9 : Nat)) 2, (some (83, true))⟩,
  ⟨(some 85), .load 26 (.tmp (84 : Nat)), (some (83, true))⟩,
  ⟨(some 86), .buildSlice 26 2 #[(0, (.const (.int .u8 248))), (1, (.const (.int .u8 152)))], (some (83, true))⟩,
  ⟨(some 87), .call ⟨(.value (.func (50 : Nat))), #[(.tmp (85 : Nat)), (.tmp (86 : Nat))], #[26, 26]⟩, (some (83, true))⟩,
  ⟨(some 88), .pick (.tmp (83 : Nat)) (.tmp (87 : Nat)) (.const (.bool false)), none⟩,
  ⟨(some 0), .assign (.tmp (88 : Nat)), none⟩]
def K2_bitmapWorks_c : SF := ⟨89, (.seq (.reg K2_bitmapWorks_r0)
  (.seq (.reg K2_bitmapWorks_r1)
  (.seq (.reg K2_bitmapWorks_r2)
  (.seq (.reg K2_bitmapWorks_r3)
  (.seq (.reg K2_bitmapWorks_r4)
  (.seq (.reg K2_bitmapWorks_r5)
  (.seq (.reg K2_bitmapWorks_r6)
  .ret))))))), [.tmp 0]⟩
theorem K2_bitmapWorks_s : slimF Try.prog 20 = some K2_bitmapWorks_c := by kernel_rfl
abbrev K2_bitmapWorks_f : Nat := 20
/-- printworks/printworkskeep2.sheetWorks -/
def K2_sheetWorks_r0 : List SO := [⟨(some 0), .assign (.const (.bool false)), none⟩]
def K2_sheetWorks_r1 : List SO := [⟨(some 8), .call ⟨(.value (.func (57 : Nat))), #[], #[]⟩, none⟩,
  ⟨(some 9), .buildSlice 22 2 #[(0, (.const (.int .i64 1))), (1, (.const (.int .i64 0)))], none⟩,
  ⟨(some 10), .build 31 #[], none⟩,
  ⟨(some 11), .build 31 #[(0, (.const (.int .i64 2)))], none⟩,
  ⟨(some 12), .buildSlice 35 2 #[(0, (.tmp (10 : Nat))), (1, (.tmp (11 : Nat)))], none⟩,
  ⟨(some 13), .call ⟨(.value (.func (40 : Nat))), #[(.tmp (8 : Nat)), (.tmp (9 : Nat)), (.tmp (12 : Nat))], #[38, 22, 35]⟩, none⟩,
  ⟨(some 7), .move (.tmp (13 : Nat)), none⟩,
  ⟨(some 14), .extract (.tmp (7 : Nat)) 0, none⟩,
  ⟨(some 15), .extract (.tmp (7 : Nat)) 1, none⟩,
  ⟨(some 1), .alloc 47, none⟩,
  ⟨none, .store 47 (.tmp (1 : Nat)) (.tmp (14 : Nat)), none⟩,
  ⟨(some 2), .assign (.tmp (15 : Nat)), none⟩]
def K2_sheetWorks_r2 : List SO := [⟨(some 17), .load 47 (.tmp (1 : Nat)), none⟩,
  ⟨(some 18), .call ⟨(.value (.func (42 : Nat))), #[(.tmp (17 : Nat)), (.const (.int .i64 2))], #[47, 3]⟩, none⟩,
  ⟨(some 16), .move (.tmp (18 : Nat)), none⟩,
  ⟨(some 19), .extract (.tmp (16 : Nat)) 0, none⟩,
  ⟨(some 20), .extract (.tmp (16 : Nat)) 1, none⟩,
  ⟨(some 3), .assign (.tmp (19 : Nat)), none⟩,
  ⟨(some 4), .assign (.tmp (20 : Nat)), none⟩]
def K2_sheetWorks_r3 : List SO := [⟨(some 22), .load 47 (.tmp (1 : Nat)), none⟩,
  ⟨(some 23), .makeSlice 26 (.const (.int .i64 5)) (.const (.int .i64 5)), none⟩,
  ⟨(some 24), .build 47 #[(0, (.const (.int .i64 5))), (1, (.const (.int .i64 1))), (2, (.tmp (23 : Nat)))], none⟩,
  ⟨(some 25), .call ⟨(.value (.func (26 : Nat))), #[(.tmp (22 : Nat)), (.tmp (24 : Nat)), (.const (.int .i64 0))], #[47, 47, 3]⟩, none⟩,
  ⟨(some 21), .move (.tmp (25 : Nat)), none⟩,
  ⟨(some 26), .extract (.tmp (21 : Nat)) 0, none⟩,
  ⟨(some 27), .extract (.tmp (21 : Nat)) 1, none⟩,
  ⟨(some 5), .assign (.tmp (26 : Nat)), none⟩,
  ⟨(some 6), .assign (.tmp (27 : Nat)), none⟩]
def K2_sheetWorks_a3 : List (List Nat) := [[], [], [1], [0, 2], [3], [4], [4], [5, 3, 0, 1, 2, 3, 4, 5], [6, 7, 0, 1, 2, 3, 4, 5, 6, 7]]
def K2_sheetWorks_r4 : List SO := [⟨(some 28), .move (.tmp (2 : Nat)), none⟩,
  ⟨(some 29), .binOp .eql 32 (.tmp (28 : Nat)) (.const (.int .i64 0)) 32, none⟩,
  ⟨(some 30), .move (.tmp (29 : Nat)), none⟩,
  ⟨(some 31), .fieldAddr 47 (.tmp (1 : Nat)) 0, (some (30, true))⟩,
  ⟨(some 32), .load 3 (.tmp (31 : Nat)), (some (30, true))⟩,
  ⟨(some 33), .binOp .eql 3 (.tmp (32 : Nat)) (.const (.int .i64 5)) 3, (some (30, true))⟩,
  ⟨(some 34), .pick (.tmp (30 : Nat)) (.tmp (33 : Nat)) (.const (.bool false)), none⟩,
  ⟨(some 35), .move (.tmp (34 : Nat)), none⟩,
  ⟨(some 36), .fieldAddr 47 (.tmp (1 : Nat)) 1, (some (35, true))⟩,
  ⟨(some 37), .load 3 (.tmp (36 : Nat)), (some (35, true))⟩,
  ⟨(some 38), .binOp .eql 3 (.tmp (37 : Nat)) (.const (.int .i64 1)) 3, (some (35, true))⟩,
  ⟨(some 39), .pick (.tmp (35 : Nat)) (.tmp (38 : Nat)) (.const (.bool false)), none⟩,
  ⟨(some 40), .move (.tmp (39 : Nat)), none⟩,
  ⟨(some 41), .fieldAddr 47 (.tmp (1 : Nat)) 2, (some (40, true))⟩,
  ⟨(some 42), .load 26 (.tmp (41 : Nat)), (some (40, true))⟩,
  ⟨(some 43), .buildSlice 26 5 #[(0, (.const (.int .u8 0))), (1, (.const (.int .u8 1))), (2, (.const (.int .u8 1))), (3, (.const (.int .u8 1))), (4, (.const (.int .u8 2)))], (some (40, true))⟩,
  ⟨(some 44), .call ⟨(.value (.func (50 : Nat))), #[(.tmp (42 : Nat)), (.tmp (43 : Nat))], #[26, 26]⟩, (some (40, true))⟩,
  ⟨(some 45), .pick (.tmp (40 : Nat)) (.tmp (44 : Nat)) (.const (.bool false)), none⟩,
  ⟨(some 46), .move (.tmp (45 : Nat)), none⟩,
  ⟨(some 47), .move (.tmp (4 : Nat)), (some (46, true))⟩,
  ⟨(some 48), .binOp .eql 32 (.tmp (47 : Nat)) (.const (.int .i64 0)) 32, (some (46, true))⟩,
  ⟨(some 49), .pick (.tmp (46 : Nat)) (.tmp (48 : Nat)) (.const (.bool false)), none⟩,
  ⟨(some 50), .move (.tmp (49 : Nat)), none⟩,
  ⟨(some 51), .move (.tmp (3 : Nat)), (some (50, true))⟩,
  ⟨(some 52), .buildSlice 22 4 #[(0, (.const (.int .i64 1))), (1, (.const (.int .i64 3))), (2, (.const (.int .i64 1))), (3, (.const (.int .i64 0)))], (some (50, true))⟩,
  ⟨(some 53), .call ⟨(.value (.func (32 : Nat))), #[(.tmp (51 : Nat)), (.tmp (52 : Nat))], #[22, 22]⟩, (some (50, true))⟩,
  ⟨(some 54), .pick (.tmp (50 : Nat)) (.tmp (53 : Nat)) (.const (.bool false)), none⟩,
  ⟨(some 55), .move (.tmp (54 : Nat)), none⟩,
  ⟨(some 56), .move (.tmp (6 : Nat)), (some (55, true))⟩,
  ⟨(some 57), .binOp .eql 32 (.tmp (56 : Nat)) (.const (.int .i64 0)) 32, (some (55, true))⟩,
  ⟨(some 58), .pick (.tmp (55 : Nat)) (.tmp (57 : Nat)) (.const (.bool false)), none⟩,
  ⟨(some 59), .move (.tmp (58 : Nat)), none⟩,
  ⟨(some 60), .move (.tmp (5 : Nat)), (some (59, true))⟩,
  ⟨(some 61), .binOp .eql 3 (.tmp (60 : Nat)) (.const (.int .i64 4)) 3, (some (59, true))⟩,
  ⟨(some 62), .pick (.tmp (59 : Nat)) (.tmp (61 : Nat)) (.const (.bool false)), none⟩,
  ⟨(some 0), .assign (.tmp (62 : Nat)), none⟩]
def K2_sheetWorks_c : SF := ⟨63, (.seq (.reg K2_sheetWorks_r0)
  (.seq (.reg K2_sheetWorks_r1)
  (.seq (.reg K2_sheetWorks_r2)
  (.seq (.regd K2_sheetWorks_r3 K2_sheetWorks_a3)
  (.seq (.reg K2_sheetWorks_r4)
  .ret))))), [.tmp 0]⟩
theorem K2_sheetWorks_s : slimF Try.prog 25 = some K2_sheetWorks_c := by kernel_rfl
abbrev K2_sheetWorks_f : Nat := 25
/-- printworks/printworkskeep2.linearWorks -/
def K2_linearWorks_r0 : List SO := [⟨(some 0), .assign (.const (.bool false)), none⟩]
def K2_linearWorks_r1 : List SO := [⟨(some 8), .call ⟨(.value (.func (29 : Nat))), #[(.const (.string ⟨([48, 48] : List UInt8).toArray⟩))], #[9]⟩, none⟩,
  ⟨(some 7), .move (.tmp (8 : Nat)), none⟩,
  ⟨(some 9), .extract (.tmp (7 : Nat)) 0, none⟩,
  ⟨(some 10), .extract (.tmp (7 : Nat)) 1, none⟩,
  ⟨(some 1), .assign (.tmp (9 : Nat)), none⟩,
  ⟨(some 2), .assign (.tmp (10 : Nat)), none⟩]
def K2_linearWorks_r2 : List SO := [⟨(some 12), .move (.tmp (1 : Nat)), none⟩,
  ⟨(some 13), .call ⟨(.value (.func (30 : Nat))), #[(.tmp (12 : Nat))], #[22]⟩, none⟩,
  ⟨(some 11), .move (.tmp (13 : Nat)), none⟩,
  ⟨(some 14), .extract (.tmp (11 : Nat)) 0, none⟩,
  ⟨(some 15), .extract (.tmp (11 : Nat)) 1, none⟩,
  ⟨(some 3), .assign (.tmp (14 : Nat)), none⟩,
  ⟨(some 4), .assign (.tmp (15 : Nat)), none⟩]
def K2_linearWorks_r3 : List SO := [⟨(some 17), .call ⟨(.value (.func (31 : Nat))), #[(.const (.int .i64 1))], #[3]⟩, none⟩,
  ⟨(some 16), .move (.tmp (17 : Nat)), none⟩,
  ⟨(some 18), .extract (.tmp (16 : Nat)) 0, none⟩,
  ⟨(some 19), .extract (.tmp (16 : Nat)) 1, none⟩,
  ⟨(some 5), .assign (.tmp (18 : Nat)), none⟩,
  ⟨(some 6), .assign (.tmp (19 : Nat)), none⟩]
def K2_linearWorks_r4 : List SO := [⟨(some 20), .move (.tmp (2 : Nat)), none⟩,
  ⟨(some 21), .binOp .eql 32 (.tmp (20 : Nat)) (.const (.int .i64 0)) 32, none⟩,
  ⟨(some 22), .move (.tmp (21 : Nat)), none⟩,
  ⟨(some 23), .move (.tmp (1 : Nat)), (some (22, true))⟩,
  ⟨(some 24), .buildSlice 22 25 #[(0, (.const (.int .i64 4))), (1, (.const (.int .i64 1))), (2, (.const (.int .i64 1))), (3, (.const (.int .i64 2))), (4, (.const (.int .i64 1))), (5, (.const (.int .i64 2))), (6, (.const (.int .i64 1))), (7, (.const (.int .i64 1))), (8, (.const (.int .i64 1))), (9, (.const (.int .i64 1))), (10, (.const (.int .i64 4))), (11, (.const (.int .i64 3))), (12, (.const (.int .i64 1))), (13, (.const (.int .i64 1))), (14, (.const (.int .i64 1))), (15, (.const (.int .i64 1))), (16, (.const (.int .i64 4))), (17, (.const (.int .i64 3))), (18, (.const (.int .i64 4))), (19, (.const (.int .i64 1))), (20, (.const (.int .i64 1))), (21, (.const (.int .i64 3))), (22, (.const (.int .i64 1))), (23, (.const (.int .i64 1))), (24, (.const (.int .i64 2)))], (some (22, true))⟩,
  ⟨(some 25), .call ⟨(.value (.func (32 : Nat))), #[(.tmp (23 : Nat)), (.tmp (24 : Nat))], #[22, 22]⟩, (some (22, true))⟩,
  ⟨(some 26), .pick (.tmp (22 : Nat)) (.tmp (25 : Nat)) (.const (.bool false)), none⟩,
  ⟨(some 27), .move (.tmp (26 : Nat)), none⟩,
  ⟨(some 28), .move (.tmp (4 : Nat)), (some (27, true))⟩,
  ⟨(some 29), .binOp .eql 32 (.tmp (28 : Nat)) (.const (.int .i64 0)) 32, (some (27, true))⟩,
  ⟨(some 30), .pick (.tmp (27 : Nat)) (.tmp (29 : Nat)) (.const (.bool false)), none⟩,
  ⟨(some 31), .move (.tmp (30 : Nat)), none⟩,
  ⟨(some 32), .move (.tmp (3 : Nat)), (some (31, true))⟩,
  ⟨(some 33), .binOp .eql 9 (.tmp (32 : Nat)) (.const (.string ⟨([48, 48] : List UInt8).toArray⟩)) 9, (some (31, true))⟩,
  ⟨(some 34), .pick (.tmp (31 : Nat)) (.tmp (33 : Nat)) (.const (.bool false)), none⟩,
  ⟨(some 35), .move (.tmp (34 : Nat)), none⟩,
  ⟨(some 36), .move (.tmp (6 : Nat)), (some (35, true))⟩,
  ⟨(some 37), .binOp .eql 32 (.tmp (36 : Nat)) (.const (.int .i64 0)) 32, (some (35, true))⟩,
  ⟨(some 38), .pick (.tmp (35 : Nat)) (.tmp (37 : Nat)) (.const (.bool false)), none⟩,
  ⟨(some 39), .move (.tmp (38 : Nat)), none⟩,
  ⟨(some 40), .move (.tmp (5 : Nat)), (some (39, true))⟩,
  ⟨(some 41), .buildSlice 22 6 #[(0, (.const (.int .i64 1))), (1, (.const (.int .i64 1))), (2, (.const (.int .i64 1))), (3, (.const (.int .i64 2))), (4, (.const (.int .i64 2))), (5, (.const (.int .i64 4)))], (some (39, true))⟩,
  ⟨(some 42), .call ⟨(.value (.func (32 : Nat))), #[(.tmp (40 : Nat)), (.tmp (41 : Nat))], #[22, 22]⟩, (some (39, true))⟩,
  ⟨(some 43), .pick (.tmp (39 : Nat)) (.tmp (42 : Nat)) (.const (.bool false)), none⟩,
  ⟨(some 0), .assign (.tmp (43 : Nat)), none⟩]
def K2_linearWorks_c : SF := ⟨44, (.seq (.reg K2_linearWorks_r0)
  (.seq (.reg K2_linearWorks_r1)
  (.seq (.reg K2_linearWorks_r2)
  (.seq (.reg K2_linearWorks_r3)
  (.seq (.reg K2_linearWorks_r4)
  .ret))))), [.tmp 0]⟩
theorem K2_linearWorks_s : slimF Try.prog 27 = some K2_linearWorks_c := by kernel_rfl
abbrev K2_linearWorks_f : Nat := 27
/-- printworks/printworkskeep2.digitsOf -/
def K2_digitsOf_r0 : List SO := [⟨(some 2), .assign (.const (.string ⟨([] : List UInt8).toArray⟩)), none⟩]
def K2_digitsOf_r1 : List SO := [⟨(some 3), .assign (.const (.string ⟨([] : List UInt8).toArray⟩)), none⟩]
def K2_digitsOf_r2 : List SO := [⟨(some 6), .move (.tmp (0 : Nat)), none⟩,
  ⟨(some 7), .move (.tmp (0 : Nat)), none⟩,
  ⟨(some 8), .call ⟨(.builtin .len), #[(.tmp (7 : Nat))], #[22]⟩, none⟩,
  ⟨(some 9), .call ⟨(.builtin .min), #[(.tmp (8 : Nat)), (.const (.int .i64 20))], #[3, 3]⟩, none⟩,
  ⟨(some 10), .slice 22 (.tmp (6 : Nat)) none (some (.tmp (9 : Nat))) none, none⟩,
  ⟨(some 11), .call ⟨(.builtin .len), #[(.tmp (10 : Nat))], #[22]⟩, none⟩,
  ⟨(some 12), .move (.const (.int .i64 0)), none⟩]
def K2_digitsOf_r3 : List SO := [⟨(some 13), .binOp .lss 3 (.tmp (12 : Nat)) (.tmp (11 : Nat)) 3, none⟩]
def K2_digitsOf_r4 : List SO := [⟨(some 14), .indexAddr 22 (.tmp (10 : Nat)) (.tmp (12 : Nat)), none⟩,
  ⟨(some 15), .load 3 (.tmp (14 : Nat)), none⟩,
  ⟨(some 5), .assign (.tmp (15 : Nat)), none⟩]
def K2_digitsOf_r5 : List SO := [⟨(some 16), .move (.tmp (3 : Nat)), none⟩,
  ⟨(some 17), .move (.tmp (5 : Nat)), none⟩,
  ⟨(some 18), .call ⟨(.value (.func (16 : Nat))), #[(.tmp (17 : Nat)), (.const (.int .i64 10))], #[3, 3]⟩, none⟩,
  ⟨(some 19), .binOp .add 3 (.const (.int .i64 48)) (.tmp (18 : Nat)) 3, none⟩,
  ⟨(some 20), .convert 3 5 (.tmp (19 : Nat)), none⟩,
  ⟨(some 21), .buildSlice 26 1 #[(0, (.tmp (20 : Nat)))], none⟩,
  ⟨(some 22), .convert 26 9 (.tmp (21 : Nat)), none⟩,
  ⟨(some 23), .binOp .add 9 (.tmp (16 : Nat)) (.tmp (22 : Nat)) 9, none⟩,
  ⟨(some 3), .assign (.tmp (23 : Nat)), none⟩]
def K2_digitsOf_r6 : List SO := [⟨(some 24), .binOp .add 3 (.tmp (12 : Nat)) (.const (.int .i64 1)) 3, none⟩,
  ⟨(some 12), .move (.tmp (24 : Nat)), none⟩]
def K2_digitsOf_r7 : List SO := [⟨(some 25), .move (.tmp (3 : Nat)), none⟩,
  ⟨(some 26), .binOp .eql 9 (.tmp (25 : Nat)) (.const (.string ⟨([] : List UInt8).toArray⟩)) 9, none⟩]
def K2_digitsOf_r8 : List SO := [⟨(some 2), .assign (.const (.string ⟨([55] : List UInt8).toArray⟩)), none⟩]
def K2_digitsOf_r9 : List SO := [⟨(some 27), .move (.tmp (3 : Nat)), none⟩,
  ⟨(some 2), .assign (.tmp (27 : Nat)), none⟩]
def K2_digitsOf_c : SF := ⟨28, (.seq (.reg K2_digitsOf_r0)
  (.seq (.reg K2_digitsOf_r1)
  (.seq (.seq (.reg K2_digitsOf_r2)
  (.block 0 (.loop (.seq (.reg K2_digitsOf_r3)
  (.seq (.cond (.tmp (13 : Nat)) .skip (.exit 0))
  (.seq (.block 1 (.seq (.reg K2_digitsOf_r4)
  (.reg K2_digitsOf_r5)))
  (.reg K2_digitsOf_r6)))))))
  (.seq (.seq (.reg K2_digitsOf_r7)
  (.cond (.tmp (26 : Nat)) (.seq (.reg K2_digitsOf_r8)
  .ret) .skip))
  (.seq (.reg K2_digitsOf_r9)
  .ret))))), [.tmp 2]⟩
theorem K2_digitsOf_s : slimF Try.prog 28 = some K2_digitsOf_c := by kernel_rfl
abbrev K2_digitsOf_f : Nat := 28
/-- printworks/printworkskeep2.dots -/
def K2_dots_r0 : List SO := [⟨(some 0), .alloc 28, none⟩]
def K2_dots_r1 : List SO := [⟨(some 1), .buildSlice 26 2 #[(0, (.const (.int .u8 144))), (1, (.const (.int .u8 8)))], none⟩,
  ⟨(some 2), .build 28 #[(0, (.const (.int .i64 5))), (1, (.const (.int .i64 2))), (2, (.tmp (1 : Nat)))], none⟩,
  ⟨none, .store 28 (.tmp (0 : Nat)) (.tmp (2 : Nat)), none⟩]
def K2_dots_c : SF := ⟨3, (.seq (.reg K2_dots_r0)
  (.seq (.reg K2_dots_r1)
  .ret)), [.cell 0 28]⟩
theorem K2_dots_s : slimF Try.prog 54 = some K2_dots_c := by kernel_rfl
abbrev K2_dots_f : Nat := 54
/-- printworks/printworkskeep2.twoInks -/
def K2_twoInks_r0 : List SO := [⟨(some 0), .assign (.const (.slice none 0 0)), none⟩]
def K2_twoInks_r1 : List SO := [⟨(some 1), .buildSlice 26 1 #[(0, (.const (.int .u8 32)))], none⟩,
  ⟨(some 2), .build 28 #[(0, (.const (.int .i64 5))), (1, (.const (.int .i64 1))), (2, (.tmp (1 : Nat)))], none⟩,
  ⟨(some 3), .buildSlice 26 1 #[(0, (.const (.int .u8 32)))], none⟩,
  ⟨(some 4), .build 28 #[(0, (.const (.int .i64 5))), (1, (.const (.int .i64 1))), (2, (.tmp (3 : Nat)))], none⟩,
  ⟨(some 5), .buildSlice 38 2 #[(0, (.tmp (2 : Nat))), (1, (.tmp (4 : Nat)))], none⟩,
  ⟨(some 0), .assign (.tmp (5 : Nat)), none⟩]
def K2_twoInks_c : SF := ⟨6, (.seq (.reg K2_twoInks_r0)
  (.seq (.reg K2_twoInks_r1)
  .ret)), [.tmp 0]⟩
theorem K2_twoInks_s : slimF Try.prog 57 = some K2_twoInks_c := by kernel_rfl
abbrev K2_twoInks_f : Nat := 57

def tbl_K2 : List (Nat × SF) := [(15, K2_stripWorks_c), (20, K2_bitmapWorks_c), (25, K2_sheetWorks_c), (27, K2_linearWorks_c), (28, K2_digitsOf_c), (54, K2_dots_c), (57, K2_twoInks_c)]
theorem tbl_K2_ok : okT Try.prog tbl_K2 := ⟨K2_stripWorks_s, K2_bitmapWorks_s, K2_sheetWorks_s, K2_linearWorks_s, K2_digitsOf_s, K2_dots_s, K2_twoInks_s, trivial⟩

end Go.Proofs.Ytanhalcbghbpaaa
namespace Go.Proofs.Ytanhalcbghbpaaa
open Go Go.Lite
set_option linter.unusedVariables false

/-- printworks/printworkskeep2.BitmapRunsReturn -/
def K2_BitmapRunsReturn_r0 : List SO := [⟨(some 1), .box 28 (.tmp (0 : Nat)), none⟩,
  ⟨(some 2), .assign (.const (.bool false)), none⟩]
def K2_BitmapRunsReturn_r1 : List SO := [⟨(some 11), .call ⟨(.value (.func (20 : Nat))), #[], #[]⟩, none⟩,
  ⟨(some 12), .unOp .not 4 (.tmp (11 : Nat)), none⟩]
def K2_BitmapRunsReturn_r2 : List SO := [⟨(some 2), .assign (.const (.bool false)), none⟩]
def K2_BitmapRunsReturn_r3 : List SO := [⟨(some 14), .load 28 (.tmp (1 : Nat)), none⟩,
  ⟨(some 15), .call ⟨(.value (.func (33 : Nat))), #[(.tmp (14 : Nat))], #[28]⟩, none⟩,
  ⟨(some 13), .move (.tmp (15 : Nat)), none⟩,
  ⟨(some 16), .extract (.tmp (13 : Nat)) 0, none⟩,
  ⟨(some 17), .extract (.tmp (13 : Nat)) 1, none⟩,
  ⟨(some 3), .assign (.tmp (16 : Nat)), none⟩,
  ⟨(some 4), .assign (.tmp (17 : Nat)), none⟩]
def K2_BitmapRunsReturn_r4 : List SO := [⟨(some 19), .load 28 (.tmp (1 : Nat)), none⟩,
  ⟨(some 20), .call ⟨(.value (.func (34 : Nat))), #[(.tmp (19 : Nat))], #[28]⟩, none⟩,
  ⟨(some 18), .move (.tmp (20 : Nat)), none⟩,
  ⟨(some 21), .extract (.tmp (18 : Nat)) 0, none⟩,
  ⟨(some 22), .extract (.tmp (18 : Nat)) 1, none⟩,
  ⟨(some 5), .assign (.tmp (21 : Nat)), none⟩,
  ⟨(some 6), .assign (.tmp (22 : Nat)), none⟩]
def K2_BitmapRunsReturn_r5 : List SO := [⟨(some 23), .move (.tmp (4 : Nat)), none⟩,
  ⟨(some 24), .binOp .neq 32 (.tmp (23 : Nat)) (.const (.int .i64 0)) 32, none⟩]
def K2_BitmapRunsReturn_r6 : List SO := [⟨(some 25), .move (.tmp (6 : Nat)), none⟩,
  ⟨(some 26), .move (.tmp (4 : Nat)), none⟩,
  ⟨(some 27), .binOp .eql 32 (.tmp (25 : Nat)) (.tmp (26 : Nat)) 32, none⟩,
  ⟨(some 28), .move (.tmp (27 : Nat)), none⟩,
  ⟨(some 29), .move (.tmp (3 : Nat)), (some (28, true))⟩,
  ⟨(some 30), .call ⟨(.builtin .len), #[(.tmp (29 : Nat))], #[60]⟩, (some (28, true))⟩,
  ⟨(some 31), .binOp .eql 3 (.tmp (30 : Nat)) (.const (.int .i64 0)) 3, (some (28, true))⟩,
  ⟨(some 32), .pick (.tmp (28 : Nat)) (.tmp (31 : Nat)) (.const (.bool false)), none⟩,
  ⟨(some 2), .assign (.tmp (32 : Nat)), none⟩]
def K2_BitmapRunsReturn_r7 : List SO := [⟨(some 34), .fieldAddr 28 (.tmp (1 : Nat)) 0, none⟩,
  ⟨(some 35), .load 3 (.tmp (34 : Nat)), none⟩,
  ⟨(some 36), .fieldAddr 28 (.tmp (1 : Nat)) 1, none⟩,
  ⟨(some 37), .load 3 (.tmp (36 : Nat)), none⟩,
  ⟨(some 38), .move (.tmp (3 : Nat)), none⟩,
  ⟨(some 39), .call ⟨(.value (.func (35 : Nat))), #[(.tmp (35 : Nat)), (.tmp (37 : Nat)), (.tmp (38 : Nat))], #[3, 3, 60]⟩, none⟩,
  ⟨(some 33), .move (.tmp (39 : Nat)), none⟩,
  ⟨(some 40), .extract (.tmp (33 : Nat)) 0, none⟩,
  ⟨(some 41), .extract (.tmp (33 : Nat)) 1, none⟩,
  ⟨(some 7), .alloc 28, none⟩,
  ⟨none, .store 28 (.tmp (7 : Nat)) (.tmp (40 : Nat)), none⟩,
  ⟨(some 8), .assign (.tmp (41 : Nat)), none⟩]
def K2_BitmapRunsReturn_r8 : List SO := [⟨(some 42), .move (.tmp (3 : Nat)), none⟩,
  ⟨(some 43), .call ⟨(.builtin .len), #[(.tmp (42 : Nat))], #[60]⟩, none⟩,
  ⟨(some 44), .move (.const (.int .i64 0)), none⟩]
def K2_BitmapRunsReturn_r9 : List SO := [⟨(some 45), .binOp .lss 3 (.tmp (44 : Nat)) (.tmp (43 : Nat)) 3, none⟩]
def K2_BitmapRunsReturn_r10 : List SO := [⟨(some 46), .indexAddr 60 (.tmp (42 : Nat)) (.tmp (44 : Nat)), none⟩,
  ⟨(some 47), .load 66 (.tmp (46 : Nat)), none⟩,
  ⟨(some 10), .alloc 66, none⟩,
  ⟨none, .store 66 (.tmp (10 : Nat)) (.tmp (47 : Nat)), none⟩]
def K2_BitmapRunsReturn_r11 : List SO := [⟨(some 48), .move (.tmp (5 : Nat)), none⟩,
  ⟨(some 49), .fieldAddr 66 (.tmp (10 : Nat)) 2, none⟩,
  ⟨(some 50), .load 3 (.tmp (49 : Nat)), none⟩,
  ⟨(some 51), .fieldAddr 66 (.tmp (10 : Nat)) 1, none⟩,
  ⟨(some 52), .load 3 (.tmp (51 : Nat)), none⟩,
  ⟨(some 53), .binOp .sub 3 (.tmp (50 : Nat)) (.tmp (52 : Nat)) 3, none⟩,
  ⟨(some 54), .binOp .sub 3 (.tmp (48 : Nat)) (.tmp (53 : Nat)) 3, none⟩,
  ⟨(some 5), .assign (.tmp (54 : Nat)), none⟩]
def K2_BitmapRunsReturn_r12 : List SO := [⟨(some 55), .binOp .add 3 (.tmp (44 : Nat)) (.const (.int .i64 1)) 3, none⟩,
  ⟨(some 44), .move (.tmp (55 : Nat)), none⟩]
def K2_BitmapRunsReturn_r13 : List SO := [⟨(some 56), .move (.tmp (6 : Nat)), none⟩,
  ⟨(some 57), .binOp .eql 32 (.tmp (56 : Nat)) (.const (.int .i64 0)) 32, none⟩,
  ⟨(some 58), .move (.tmp (57 : Nat)), none⟩,
  ⟨(some 59), .move (.tmp (8 : Nat)), (some (58, true))⟩,
  ⟨(some 60), .binOp .eql 32 (.tmp (59 : Nat)) (.const (.int .i64 0)) 32, (some (58, true))⟩,
  ⟨(some 61), .pick (.tmp (58 : Nat)) (.tmp (60 : Nat)) (.const (.bool false)), none⟩,
  ⟨(some 62), .move (.tmp (61 : Nat)), none⟩,
  ⟨(some 63), .move (.tmp (5 : Nat)), (some (62, true))⟩,
  ⟨(some 64), .binOp .eql 3 (.tmp (63 : Nat)) (.const (.int .i64 0)) 3, (some (62, true))⟩,
  ⟨(some 65), .pick (.tmp (62 : Nat)) (.tmp (64 : Nat)) (.const (.bool false)), none⟩,
  ⟨(some 66), .move (.tmp (65 : Nat)), none⟩,
  ⟨(some 67), .load 28 (.tmp (1 : Nat)), (some (66, true))⟩,
  ⟨(some 68), .load 28 (.tmp (7 : Nat)), (some (66, true))⟩,
  ⟨(some 69), .call ⟨(.value (.func (24 : Nat))), #[(.tmp (67 : Nat)), (.tmp (68 : Nat))], #[28, 28]⟩, (some (66, true))⟩,
  ⟨(some 70), .pick (.tmp (66 : Nat)) (.tmp (69 : Nat)) (.const (.bool false)), none⟩,
  ⟨(some 2), .assign (.tmp (70 : Nat)), none⟩]
def K2_BitmapRunsReturn_c : SF := ⟨71, (.seq (.reg K2_BitmapRunsReturn_r0)
  (.seq (.seq (.reg K2_BitmapRunsReturn_r1)
  (.cond (.tmp (12 : Nat)) (.seq (.reg K2_BitmapRunsReturn_r2)
  .ret) .skip))
  (.seq (.reg K2_BitmapRunsReturn_r3)
  (.seq (.reg K2_BitmapRunsReturn_r4)
  (.seq (.seq (.reg K2_BitmapRunsReturn_r5)
  (.cond (.tmp (24 : Nat)) (.seq (.reg K2_BitmapRunsReturn_r6)
  .ret) .skip))
  (.seq (.reg K2_BitmapRunsReturn_r7)
  (.seq (.seq (.reg K2_BitmapRunsReturn_r8)
  (.block 0 (.loop (.seq (.reg K2_BitmapRunsReturn_r9)
  (.seq (.cond (.tmp (45 : Nat)) .skip (.exit 0))
  (.seq (.block 1 (.seq (.reg K2_BitmapRunsReturn_r10)
  (.reg K2_BitmapRunsReturn_r11)))
  (.reg K2_BitmapRunsReturn_r12)))))))
  (.seq (.reg K2_BitmapRunsReturn_r13)
  .ret)))))))), [.tmp 2]⟩
theorem K2_BitmapRunsReturn_s : slimF Try.prog 8 = some K2_BitmapRunsReturn_c := by kernel_rfl
abbrev K2_BitmapRunsReturn_f : Nat := 8

def tbl_BitmapRunsReturn : List (Nat × SF) := [(8, K2_BitmapRunsReturn_c)]
theorem tbl_BitmapRunsReturn_ok : okT Try.prog tbl_BitmapRunsReturn := ⟨K2_BitmapRunsReturn_s, trivial⟩

end Go.Proofs.Ytanhalcbghbpaaa
