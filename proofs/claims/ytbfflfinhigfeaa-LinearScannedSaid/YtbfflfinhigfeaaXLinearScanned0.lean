/- Printed by program: the functions' code in few words; the kernel checks it against the translation. -/
import Derived.Test.YtbfflfinhigfeaaRows
import Derived.Test.YtbfflfinhigfeaaLiteTP
namespace Go.Proofs.Ytbfflfinhigfeaa
open Go Go.Lite
set_option linter.unusedVariables false

/-- Int -/
abbrev Ei : Nat := 0
/-- Int -/
abbrev Ey : Nat := 1
/-- Int × Int × Int × Int × Int × Int -/
abbrev E6i : Nat := 2
@[reducible] def A (e : Nat) : Type := match e with
  | 0 => Int
  | 1 => Int
  | 2 => Int × Int × Int × Int × Int × Int
  | _ => Unit
def eSz (e : Nat) : Nat := match e with
  | 0 => 1
  | 1 => 1
  | 2 => 6
  | _ => 1
def eD (e : Nat) : A e := match e with
  | 0 => (0 : Int)
  | 1 => (0 : Int)
  | 2 => ((0 : Int), (0 : Int), (0 : Int), (0 : Int), (0 : Int), (0 : Int))
  | _ + 3 => ()
def encL0 (x : Int) : List LV := [.int .i64 (x)]
def enc0 (x : Int) : List (TV A) := [.int .i64 (x)]
def dec0 (cs : List (TV A)) : Option (Int) := match cs with
  | [.int .i64 x0] => some x0
  | _ => none
def encL1 (x : Int) : List LV := [.int .u8 (x)]
def enc1 (x : Int) : List (TV A) := [.int .u8 (x)]
def dec1 (cs : List (TV A)) : Option (Int) := match cs with
  | [.int .u8 x0] => some x0
  | _ => none
def encL2 (x : Int × Int × Int × Int × Int × Int) : List LV := [.int .i64 (x.1), .int .i64 (x.2.1), .int .i64 (x.2.2.1), .int .i64 (x.2.2.2.1), .int .i64 (x.2.2.2.2.1), .int .i64 (x.2.2.2.2.2)]
def enc2 (x : Int × Int × Int × Int × Int × Int) : List (TV A) := [.int .i64 (x.1), .int .i64 (x.2.1), .int .i64 (x.2.2.1), .int .i64 (x.2.2.2.1), .int .i64 (x.2.2.2.2.1), .int .i64 (x.2.2.2.2.2)]
def dec2 (cs : List (TV A)) : Option (Int × Int × Int × Int × Int × Int) := match cs with
  | [.int .i64 x0, .int .i64 x1, .int .i64 x2, .int .i64 x3, .int .i64 x4, .int .i64 x5] => some (x0, x1, x2, x3, x4, x5)
  | _ => none
def eEncL (e : Nat) (a : A e) : List LV := match e, a with
  | 0, a => encL0 a
  | 1, a => encL1 a
  | 2, a => encL2 a
  | _ + 3, _ => [.nilp]
def eEnc (e : Nat) (a : A e) : List (TV A) := match e, a with
  | 0, a => enc0 a
  | 1, a => enc1 a
  | 2, a => enc2 a
  | _ + 3, _ => [.nilp]
def eDec (e : Nat) (cs : List (TV A)) : Option (A e) := match e with
  | 0 => dec0 cs
  | 1 => dec1 cs
  | 2 => dec2 cs
  | _ + 3 => none
def eEl (t : Nat) : Option Nat := match t with
  | 22 => some 0
  | 35 => some 1
  | 43 => some 2
  | 45 => some 0
  | 54 => some 0
  | _ => none
def fl (e : Nat) : Bool := match e with
  | 0 => true
  | 1 => true
  | 2 => true
  | _ => false
def eByt (e : Nat) : Option (List (A e) → List Int) := match e with
  | 1 => some fun xs => xs
  | _ => none
theorem flat1 : ∀ xs : List Int, xs.flatMap (fun x => [LV.int .u8 x]) = xs.map (LV.int .u8)
  | [] => rfl
  | x :: r => congrArg (LV.int .u8 x :: ·) (flat1 r)
def R : Reg A := ⟨eSz, eD, eEncL, eEnc, eDec, eEl, eByt⟩
theorem R_ok : R.Ok where
  pos e := by show 0 < eSz e; unfold eSz; split <;> decide
  len e a := match e, a with
    | 0, a => rfl
    | 1, a => rfl
    | 2, a => rfl
    | e + 3, a => rfl
  ok e a := match e, a with
    | 0, a => rfl
    | 1, a => rfl
    | 2, a => rfl
    | e + 3, a => rfl
  dec e cs a h := match e, a, h with
    | 0, a, h => by
      replace h : dec0 cs = some a := h
      unfold dec0 at h
      split at h
      · cases h; rfl
      · cases h
    | 1, a, h => by
      replace h : dec1 cs = some a := h
      unfold dec1 at h
      split at h
      · cases h; rfl
      · cases h
    | 2, a, h => by
      replace h : dec2 cs = some a := h
      unfold dec2 at h
      split at h
      · cases h; rfl
      · cases h
    | e + 3, a, h => by cases h
  free e a := match e, a with
    | 0, a => rfl
    | 1, a => rfl
    | 2, a => rfl
    | e + 3, a => rfl
  sol e a := match e, a with
    | 0, a => rfl
    | 1, a => rfl
    | 2, a => rfl
    | e + 3, a => rfl
  byt e f h xs := match e, f, h with
    | 0, f, h => by cases h
    | 1, f, h => by cases h; exact flat1 xs
    | 2, f, h => by cases h
    | e + 3, f, h => by cases h
theorem fl_ok : ∀ e, fl e = true → ∀ a, psfreeL (R.encL e a) = true := fun e h a => match e, h, a with
  | 0, h, a => rfl
  | 1, h, a => rfl
  | 2, h, a => rfl
  | e + 3, h, a => rfl

def tyL : List (Nat × TI) := [(0, ⟨.other, 1, false, [.dead]⟩),
  (22, ⟨.slice 1 8 [.int .i64 0], 1, false, [.nils]⟩),
  (9, ⟨.str, 1, false, [.str ⟨([] : List UInt8).toArray⟩]⟩),
  (3, ⟨.int .i64, 1, false, [.int .i64 0]⟩),
  (25, ⟨.int .i64, 1, false, [.int .i64 0]⟩),
  (4, ⟨.bool, 1, false, [.bool false]⟩),
  (37, ⟨.struct [(0, 1, false), (1, 1, false), (2, 1, false)], 3, true, [.int .i64 0, .int .i64 0, .nils]⟩),
  (5, ⟨.int .u8, 1, false, [.int .u8 0]⟩),
  (35, ⟨.slice 1 1 [.int .u8 0], 1, false, [.nils]⟩),
  (43, ⟨.slice 6 48 [.int .i64 0, .int .i64 0, .int .i64 0, .int .i64 0, .int .i64 0, .int .i64 0], 1, false, [.nils]⟩),
  (45, ⟨.arr 6 1 false, 6, true, [.int .i64 0, .int .i64 0, .int .i64 0, .int .i64 0, .int .i64 0, .int .i64 0]⟩),
  (50, ⟨.other, 1, false, [.nilp]⟩),
  (53, ⟨.other, 1, false, [.nilf]⟩),
  (54, ⟨.arr 4 1 false, 4, true, [.int .i64 0, .int .i64 0, .int .i64 0, .int .i64 0]⟩),
  (60, ⟨.struct [(0, 1, false), (1, 1, false), (2, 1, false)], 3, true, [.int .i64 0, .int .i64 0, .int .i64 0]⟩),
  (61, ⟨.other, 1, false, [.nilf]⟩)]
theorem tyL_ok : okL (tiOf Try.prog) tyL := ⟨by kernel_rfl, by kernel_rfl, by kernel_rfl, by kernel_rfl, by kernel_rfl, by kernel_rfl, by kernel_rfl, by kernel_rfl, by kernel_rfl, by kernel_rfl, by kernel_rfl, by kernel_rfl, by kernel_rfl, by kernel_rfl, by kernel_rfl, by kernel_rfl, trivial⟩
def eqL : List (Nat × List Nat) := []
theorem eqL_ok : okL (eqOf Try.prog) eqL := trivial
def nlL : List (Nat × Nat) := [(3, 0), (25, 0), (9, 0), (5, 0), (35, 3)]
theorem nlL_ok : okN (nilOf Try.prog) nlL := ⟨by kernel_rfl, by kernel_rfl, by kernel_rfl, by kernel_rfl, by kernel_rfl, trivial⟩
noncomputable def ty : TT := ⟨lookT tyL (tiOf Try.prog), lookT eqL (eqOf Try.prog), lookN nlL (nilOf Try.prog)⟩
theorem ty_ok : ty = ttOf Try.prog := by
  unfold ty ttOf
  rw [lookT_eq tyL_ok, lookT_eq eqL_ok, lookN_eq nlL_ok]
def Wi (x : Int) : Prop := rng .i64 x
theorem rdi : R.d Ei = (0 : Int) := rfl
theorem rdy : R.d Ey = (0 : Int) := rfl
theorem env : Env A R Try.prog ty fl := ⟨R_ok, ty_ok, fl_ok, by kernel_rfl⟩

end Go.Proofs.Ytbfflfinhigfeaa
namespace Go.Proofs.Ytbfflfinhigfeaa
open Go Go.Lite
set_option linter.unusedVariables false

/-- printworks/linear.Encode -/
def linear_Encode_r0 : List SO := [⟨(some 2), .assign (.const (.slice none 0 0)), none⟩,
  ⟨(some 3), .assign (.const (.int .i64 0)), none⟩]
def linear_Encode_r1 : List SO := [⟨(some 11), .move (.tmp (0 : Nat)), none⟩,
  ⟨(some 12), .call ⟨(.value (.func (16 : Nat))), #[(.tmp (11 : Nat))], #[9]⟩, none⟩,
  ⟨(some 10), .move (.tmp (12 : Nat)), none⟩,
  ⟨(some 13), .extract (.tmp (10 : Nat)) 0, none⟩,
  ⟨(some 14), .extract (.tmp (10 : Nat)) 1, none⟩,
  ⟨(some 4), .assign (.tmp (13 : Nat)), none⟩,
  ⟨(some 5), .assign (.tmp (14 : Nat)), none⟩]
def linear_Encode_r2 : List SO := [⟨(some 15), .move (.tmp (5 : Nat)), none⟩,
  ⟨(some 16), .binOp .neq 25 (.tmp (15 : Nat)) (.const (.int .i64 0)) 25, none⟩]
def linear_Encode_r3 : List SO := [⟨(some 17), .move (.tmp (5 : Nat)), none⟩,
  ⟨(some 2), .assign (.const (.slice none 0 0)), none⟩,
  ⟨(some 3), .assign (.tmp (17 : Nat)), none⟩]
def linear_Encode_r4 : List SO := [⟨(some 18), .call ⟨(.value (.func (17 : Nat))), #[], #[]⟩, none⟩,
  ⟨(some 6), .assign (.tmp (18 : Nat)), none⟩]
def linear_Encode_r5 : List SO := [⟨(some 19), .move (.tmp (6 : Nat)), none⟩,
  ⟨(some 20), .indexAddr 43 (.tmp (19 : Nat)) (.const (.int .i64 101)), none⟩,
  ⟨(some 21), .slice 45 (.tmp (20 : Nat)) none none none, none⟩,
  ⟨(some 22), .call ⟨(.builtin .append), #[(.const (.slice none 0 0)), (.tmp (21 : Nat))], #[22, 22]⟩, none⟩,
  ⟨(some 7), .assign (.tmp (22 : Nat)), none⟩]
def linear_Encode_r6 : List SO := [⟨(some 23), .move (.tmp (4 : Nat)), none⟩,
  ⟨(some 24), .buildSlice 22 1 #[(0, (.const (.int .i64 102)))], none⟩,
  ⟨(some 25), .call ⟨(.builtin .append), #[(.tmp (23 : Nat)), (.tmp (24 : Nat))], #[22, 22]⟩, none⟩,
  ⟨(some 26), .call ⟨(.builtin .len), #[(.tmp (25 : Nat))], #[22]⟩, none⟩,
  ⟨(some 27), .move (.const (.int .i64 0)), none⟩]
def linear_Encode_r7 : List SO := [⟨(some 28), .binOp .lss 3 (.tmp (27 : Nat)) (.tmp (26 : Nat)) 3, none⟩]
def linear_Encode_r8 : List SO := [⟨(some 29), .indexAddr 22 (.tmp (25 : Nat)) (.tmp (27 : Nat)), none⟩,
  ⟨(some 30), .load 3 (.tmp (29 : Nat)), none⟩,
  ⟨(some 9), .assign (.tmp (30 : Nat)), none⟩]
def linear_Encode_r9 : List SO := [⟨(some 31), .move (.tmp (7 : Nat)), none⟩,
  ⟨(some 32), .move (.tmp (6 : Nat)), none⟩,
  ⟨(some 33), .move (.tmp (9 : Nat)), none⟩,
  ⟨(some 34), .indexAddr 43 (.tmp (32 : Nat)) (.tmp (33 : Nat)), none⟩,
  ⟨(some 35), .slice 45 (.tmp (34 : Nat)) none none none, none⟩,
  ⟨(some 36), .call ⟨(.builtin .append), #[(.tmp (31 : Nat)), (.tmp (35 : Nat))], #[22, 22]⟩, none⟩,
  ⟨(some 7), .assign (.tmp (36 : Nat)), none⟩]
def linear_Encode_r10 : List SO := [⟨(some 37), .binOp .add 3 (.tmp (27 : Nat)) (.const (.int .i64 1)) 3, none⟩,
  ⟨(some 27), .move (.tmp (37 : Nat)), none⟩]
def linear_Encode_r11 : List SO := [⟨(some 38), .move (.tmp (7 : Nat)), none⟩,
  ⟨(some 39), .buildSlice 22 1 #[(0, (.const (.int .i64 2)))], none⟩,
  ⟨(some 40), .call ⟨(.builtin .append), #[(.tmp (38 : Nat)), (.tmp (39 : Nat))], #[22, 22]⟩, none⟩,
  ⟨(some 2), .assign (.tmp (40 : Nat)), none⟩,
  ⟨(some 3), .assign (.const (.int .i64 0)), none⟩]
def linear_Encode_c : SF := ⟨41, (.seq (.reg linear_Encode_r0)
  (.seq (.reg linear_Encode_r1)
  (.seq (.seq (.reg linear_Encode_r2)
  (.cond (.tmp (16 : Nat)) (.seq (.reg linear_Encode_r3)
  .ret) .skip))
  (.seq (.reg linear_Encode_r4)
  (.seq (.reg linear_Encode_r5)
  (.seq (.seq (.reg linear_Encode_r6)
  (.block 0 (.loop (.seq (.reg linear_Encode_r7)
  (.seq (.cond (.tmp (28 : Nat)) .skip (.exit 0))
  (.seq (.block 1 (.seq (.reg linear_Encode_r8)
  (.reg linear_Encode_r9)))
  (.reg linear_Encode_r10)))))))
  (.seq (.reg linear_Encode_r11)
  .ret))))))), [.tmp 2, .tmp 3]⟩
theorem linear_Encode_s : slimF Try.prog 8 = some linear_Encode_c := by kernel_rfl
abbrev linear_Encode_f : Nat := 8
/-- printworks/linear.Decode -/
def linear_Decode_r0 : List SO := [⟨(some 2), .assign (.const (.string ⟨([] : List UInt8).toArray⟩)), none⟩,
  ⟨(some 3), .assign (.const (.int .i64 0)), none⟩]
def linear_Decode_r1 : List SO := [⟨(some 14), .move (.tmp (0 : Nat)), none⟩,
  ⟨(some 15), .call ⟨(.builtin .len), #[(.tmp (14 : Nat))], #[22]⟩, none⟩,
  ⟨(some 4), .assign (.tmp (15 : Nat)), none⟩]
def linear_Decode_r2 : List SO := [⟨(some 16), .move (.tmp (4 : Nat)), none⟩,
  ⟨(some 17), .binOp .gtr 3 (.tmp (16 : Nat)) (.const (.int .i64 85)) 3, none⟩]
def linear_Decode_r3 : List SO := [⟨(some 2), .assign (.const (.string ⟨([] : List UInt8).toArray⟩)), none⟩,
  ⟨(some 3), .assign (.const (.int .i64 2)), none⟩]
def linear_Decode_r4 : List SO := [⟨(some 18), .move (.tmp (4 : Nat)), none⟩,
  ⟨(some 19), .binOp .lss 3 (.tmp (18 : Nat)) (.const (.int .i64 25)) 3, none⟩]
def linear_Decode_r5 : List SO := [⟨(some 2), .assign (.const (.string ⟨([] : List UInt8).toArray⟩)), none⟩,
  ⟨(some 3), .assign (.const (.int .i64 12)), none⟩]
def linear_Decode_r6 : List SO := [⟨(some 20), .move (.tmp (4 : Nat)), none⟩,
  ⟨(some 21), .binOp .rem 3 (.tmp (20 : Nat)) (.const (.int .i64 6)) 3, none⟩,
  ⟨(some 22), .binOp .neq 3 (.tmp (21 : Nat)) (.const (.int .i64 1)) 3, none⟩]
def linear_Decode_r7 : List SO := [⟨(some 2), .assign (.const (.string ⟨([] : List UInt8).toArray⟩)), none⟩,
  ⟨(some 3), .assign (.const (.int .i64 4)), none⟩]
def linear_Decode_r8 : List SO := [⟨(some 23), .move (.tmp (0 : Nat)), none⟩,
  ⟨(some 24), .call ⟨(.builtin .len), #[(.tmp (23 : Nat))], #[22]⟩, none⟩,
  ⟨(some 25), .move (.const (.int .i64 0)), none⟩]
def linear_Decode_r9 : List SO := [⟨(some 26), .binOp .lss 3 (.tmp (25 : Nat)) (.tmp (24 : Nat)) 3, none⟩]
def linear_Decode_r10 : List SO := [⟨(some 27), .indexAddr 22 (.tmp (23 : Nat)) (.tmp (25 : Nat)), none⟩,
  ⟨(some 28), .load 3 (.tmp (27 : Nat)), none⟩,
  ⟨(some 6), .assign (.tmp (28 : Nat)), none⟩]
def linear_Decode_r11 : List SO := [⟨(some 29), .move (.tmp (6 : Nat)), none⟩,
  ⟨(some 30), .binOp .lss 3 (.tmp (29 : Nat)) (.const (.int .i64 1)) 3, none⟩,
  ⟨(some 31), .move (.tmp (30 : Nat)), none⟩,
  ⟨(some 32), .move (.tmp (6 : Nat)), (some (31, false))⟩,
  ⟨(some 33), .binOp .gtr 3 (.tmp (32 : Nat)) (.const (.int .i64 1024)) 3, (some (31, false))⟩,
  ⟨(some 34), .pick (.tmp (31 : Nat)) (.const (.bool true)) (.tmp (33 : Nat)), none⟩]
def linear_Decode_r12 : List SO := [⟨(some 2), .assign (.const (.string ⟨([] : List UInt8).toArray⟩)), none⟩,
  ⟨(some 3), .assign (.const (.int .i64 3)), none⟩]
def linear_Decode_r13 : List SO := [⟨(some 35), .binOp .add 3 (.tmp (25 : Nat)) (.const (.int .i64 1)) 3, none⟩,
  ⟨(some 25), .move (.tmp (35 : Nat)), none⟩]
def linear_Decode_r14 : List SO := [⟨(some 36), .call ⟨(.value (.func (17 : Nat))), #[], #[]⟩, none⟩,
  ⟨(some 7), .assign (.tmp (36 : Nat)), none⟩]
def linear_Decode_r15 : List SO := [⟨(some 37), .move (.tmp (7 : Nat)), none⟩,
  ⟨(some 38), .move (.tmp (0 : Nat)), none⟩,
  ⟨(some 39), .call ⟨(.value (.func (19 : Nat))), #[(.tmp (37 : Nat)), (.tmp (38 : Nat))], #[43, 22]⟩, none⟩,
  ⟨(some 40), .binOp .neq 3 (.tmp (39 : Nat)) (.const (.int .i64 101)) 3, none⟩]
def linear_Decode_r16 : List SO := [⟨(some 41), .move (.tmp (4 : Nat)), none⟩,
  ⟨(some 42), .makeSlice 22 (.tmp (41 : Nat)) (.tmp (41 : Nat)), none⟩,
  ⟨(some 8), .assign (.tmp (42 : Nat)), none⟩]
def linear_Decode_r17 : List SO := [⟨(some 43), .move (.tmp (0 : Nat)), none⟩,
  ⟨(some 44), .call ⟨(.builtin .len), #[(.tmp (43 : Nat))], #[22]⟩, none⟩,
  ⟨(some 45), .move (.const (.int .i64 0)), none⟩]
def linear_Decode_r18 : List SO := [⟨(some 46), .binOp .lss 3 (.tmp (45 : Nat)) (.tmp (44 : Nat)) 3, none⟩]
def linear_Decode_r19 : List SO := [⟨(some 47), .move (.tmp (45 : Nat)), none⟩,
  ⟨(some 48), .indexAddr 22 (.tmp (43 : Nat)) (.tmp (45 : Nat)), none⟩,
  ⟨(some 49), .load 3 (.tmp (48 : Nat)), none⟩,
  ⟨(some 9), .assign (.tmp (47 : Nat)), none⟩,
  ⟨(some 10), .assign (.tmp (49 : Nat)), none⟩]
def linear_Decode_r20 : List SO := [⟨(some 50), .move (.tmp (8 : Nat)), none⟩,
  ⟨(some 51), .move (.tmp (4 : Nat)), none⟩,
  ⟨(some 52), .binOp .sub 3 (.tmp (51 : Nat)) (.const (.int .i64 1)) 3, none⟩,
  ⟨(some 53), .move (.tmp (9 : Nat)), none⟩,
  ⟨(some 54), .binOp .sub 3 (.tmp (52 : Nat)) (.tmp (53 : Nat)) 3, none⟩,
  ⟨(some 55), .move (.tmp (10 : Nat)), none⟩,
  ⟨(some 56), .indexAddr 22 (.tmp (50 : Nat)) (.tmp (54 : Nat)), none⟩,
  ⟨none, .store 3 (.tmp (56 : Nat)) (.tmp (55 : Nat)), none⟩]
def linear_Decode_r21 : List SO := [⟨(some 57), .binOp .add 3 (.tmp (45 : Nat)) (.const (.int .i64 1)) 3, none⟩,
  ⟨(some 45), .move (.tmp (57 : Nat)), none⟩]
def linear_Decode_r22 : List SO := [⟨(some 58), .move (.tmp (8 : Nat)), none⟩,
  ⟨(some 0), .assign (.tmp (58 : Nat)), none⟩]
def linear_Decode_r23 : List SO := [⟨(some 11), .assign (.const (.slice none 0 0)), none⟩]
def linear_Decode_r24 : List SO := [⟨(some 59), .move (.tmp (0 : Nat)), none⟩,
  ⟨(some 60), .call ⟨(.builtin .len), #[(.tmp (59 : Nat))], #[22]⟩, none⟩,
  ⟨(some 61), .binOp .gtr 3 (.tmp (60 : Nat)) (.const (.int .i64 1)) 3, none⟩]
def linear_Decode_r25 : List SO := [⟨(some 64), .move (.tmp (7 : Nat)), none⟩,
  ⟨(some 65), .move (.tmp (0 : Nat)), none⟩,
  ⟨(some 66), .call ⟨(.value (.func (19 : Nat))), #[(.tmp (64 : Nat)), (.tmp (65 : Nat))], #[43, 22]⟩, none⟩,
  ⟨(some 12), .assign (.tmp (66 : Nat)), none⟩]
def linear_Decode_r26 : List SO := [⟨(some 67), .move (.tmp (12 : Nat)), none⟩,
  ⟨(some 68), .binOp .lss 3 (.tmp (67 : Nat)) (.const (.int .i64 0)) 3, none⟩]
def linear_Decode_r27 : List SO := [⟨(some 2), .assign (.const (.string ⟨([] : List UInt8).toArray⟩)), none⟩,
  ⟨(some 3), .assign (.const (.int .i64 4)), none⟩]
def linear_Decode_r28 : List SO := [⟨(some 69), .move (.tmp (11 : Nat)), none⟩,
  ⟨(some 70), .move (.tmp (12 : Nat)), none⟩,
  ⟨(some 71), .buildSlice 22 1 #[(0, (.tmp (70 : Nat)))], none⟩,
  ⟨(some 72), .call ⟨(.builtin .append), #[(.tmp (69 : Nat)), (.tmp (71 : Nat))], #[22, 22]⟩, none⟩,
  ⟨(some 11), .assign (.tmp (72 : Nat)), none⟩]
def linear_Decode_r29 : List SO := [⟨(some 62), .move (.tmp (0 : Nat)), none⟩,
  ⟨(some 63), .slice 22 (.tmp (62 : Nat)) (some (.const (.int .i64 6))) none none, none⟩,
  ⟨(some 0), .assign (.tmp (63 : Nat)), none⟩]
def linear_Decode_r30 : List SO := [⟨(some 73), .move (.tmp (11 : Nat)), none⟩,
  ⟨(some 74), .indexAddr 22 (.tmp (73 : Nat)) (.const (.int .i64 0)), none⟩,
  ⟨(some 75), .load 3 (.tmp (74 : Nat)), none⟩,
  ⟨(some 76), .binOp .neq 3 (.tmp (75 : Nat)) (.const (.int .i64 101)) 3, none⟩,
  ⟨(some 77), .move (.tmp (76 : Nat)), none⟩,
  ⟨(some 78), .move (.tmp (11 : Nat)), (some (77, false))⟩,
  ⟨(some 79), .move (.tmp (11 : Nat)), (some (77, false))⟩,
  ⟨(some 80), .call ⟨(.builtin .len), #[(.tmp (79 : Nat))], #[22]⟩, (some (77, false))⟩,
  ⟨(some 81), .binOp .sub 3 (.tmp (80 : Nat)) (.const (.int .i64 1)) 3, (some (77, false))⟩,
  ⟨(some 82), .indexAddr 22 (.tmp (78 : Nat)) (.tmp (81 : Nat)), (some (77, false))⟩,
  ⟨(some 83), .load 3 (.tmp (82 : Nat)), (some (77, false))⟩,
  ⟨(some 84), .binOp .neq 3 (.tmp (83 : Nat)) (.const (.int .i64 102)) 3, (some (77, false))⟩,
  ⟨(some 85), .pick (.tmp (77 : Nat)) (.const (.bool true)) (.tmp (84 : Nat)), none⟩]
def linear_Decode_r31 : List SO := [⟨(some 2), .assign (.const (.string ⟨([] : List UInt8).toArray⟩)), none⟩,
  ⟨(some 3), .assign (.const (.int .i64 4)), none⟩]
def linear_Decode_r32 : List SO := [⟨(some 86), .move (.tmp (11 : Nat)), none⟩,
  ⟨(some 87), .move (.tmp (11 : Nat)), none⟩,
  ⟨(some 88), .call ⟨(.builtin .len), #[(.tmp (87 : Nat))], #[22]⟩, none⟩,
  ⟨(some 89), .binOp .sub 3 (.tmp (88 : Nat)) (.const (.int .i64 2)) 3, none⟩,
  ⟨(some 90), .indexAddr 22 (.tmp (86 : Nat)) (.tmp (89 : Nat)), none⟩,
  ⟨(some 91), .load 3 (.tmp (90 : Nat)), none⟩,
  ⟨(some 13), .assign (.tmp (91 : Nat)), none⟩]
def linear_Decode_r33 : List SO := [⟨(some 92), .move (.tmp (11 : Nat)), none⟩,
  ⟨(some 93), .move (.tmp (11 : Nat)), none⟩,
  ⟨(some 94), .call ⟨(.builtin .len), #[(.tmp (93 : Nat))], #[22]⟩, none⟩,
  ⟨(some 95), .binOp .sub 3 (.tmp (94 : Nat)) (.const (.int .i64 2)) 3, none⟩,
  ⟨(some 96), .slice 22 (.tmp (92 : Nat)) (some (.const (.int .i64 1))) (some (.tmp (95 : Nat))) none, none⟩,
  ⟨(some 11), .assign (.tmp (96 : Nat)), none⟩]
def linear_Decode_r34 : List SO := [⟨(some 97), .move (.tmp (11 : Nat)), none⟩,
  ⟨(some 98), .call ⟨(.value (.func (20 : Nat))), #[(.tmp (97 : Nat))], #[22]⟩, none⟩,
  ⟨(some 99), .move (.tmp (13 : Nat)), none⟩,
  ⟨(some 100), .binOp .neq 3 (.tmp (98 : Nat)) (.tmp (99 : Nat)) 3, none⟩]
def linear_Decode_r35 : List SO := [⟨(some 2), .assign (.const (.string ⟨([] : List UInt8).toArray⟩)), none⟩,
  ⟨(some 3), .assign (.const (.int .i64 11)), none⟩]
def linear_Decode_r36 : List SO := [⟨(some 101), .move (.tmp (11 : Nat)), none⟩,
  ⟨(some 102), .call ⟨(.value (.func (21 : Nat))), #[(.tmp (101 : Nat))], #[22]⟩, none⟩,
  ⟨(some 103), .extract (.tmp (102 : Nat)) 0, none⟩,
  ⟨(some 104), .extract (.tmp (102 : Nat)) 1, none⟩,
  ⟨(some 2), .assign (.tmp (103 : Nat)), none⟩,
  ⟨(some 3), .assign (.tmp (104 : Nat)), none⟩]
def linear_Decode_c : SF := ⟨105, (.seq (.reg linear_Decode_r0)
  (.seq (.reg linear_Decode_r1)
  (.seq (.seq (.reg linear_Decode_r2)
  (.cond (.tmp (17 : Nat)) (.seq (.reg linear_Decode_r3)
  .ret) .skip))
  (.seq (.seq (.reg linear_Decode_r4)
  (.cond (.tmp (19 : Nat)) (.seq (.reg linear_Decode_r5)
  .ret) .skip))
  (.seq (.seq (.reg linear_Decode_r6)
  (.cond (.tmp (22 : Nat)) (.seq (.reg linear_Decode_r7)
  .ret) .skip))
  (.seq (.seq (.reg linear_Decode_r8)
  (.block 0 (.loop (.seq (.reg linear_Decode_r9)
  (.seq (.cond (.tmp (26 : Nat)) .skip (.exit 0))
  (.seq (.block 1 (.seq (.reg linear_Decode_r10)
  (.seq (.reg linear_Decode_r11)
  (.cond (.tmp (34 : Nat)) (.seq (.reg linear_Decode_r12)
  .ret) .skip))))
  (.reg linear_Decode_r13)))))))
  (.seq (.reg linear_Decode_r14)
  (.seq (.seq (.reg linear_Decode_r15)
  (.cond (.tmp (40 : Nat)) (.seq (.reg linear_Decode_r16)
  (.seq (.seq (.reg linear_Decode_r17)
  (.block 2 (.loop (.seq (.reg linear_Decode_r18)
  (.seq (.cond (.tmp (46 : Nat)) .skip (.exit 2))
  (.seq (.block 3 (.seq (.reg linear_Decode_r19)
  (.reg linear_Decode_r20)))
  (.reg linear_Decode_r21)))))))
  (.reg linear_Decode_r22))) .skip))
  (.seq (.reg linear_Decode_r23)
  (.seq (.block 4 (.loop (.seq (.seq (.reg linear_Decode_r24)
  (.cond (.tmp (61 : Nat)) .skip (.exit 4)))
  (.seq (.block 5 (.seq (.reg linear_Decode_r25)
  (.seq (.seq (.reg linear_Decode_r26)
  (.cond (.tmp (68 : Nat)) (.seq (.reg linear_Decode_r27)
  .ret) .skip))
  (.reg linear_Decode_r28))))
  (.reg linear_Decode_r29)))))
  (.seq (.seq (.reg linear_Decode_r30)
  (.cond (.tmp (85 : Nat)) (.seq (.reg linear_Decode_r31)
  .ret) .skip))
  (.seq (.reg linear_Decode_r32)
  (.seq (.seq (.reg linear_Decode_r33)
  (.seq (.reg linear_Decode_r34)
  (.cond (.tmp (100 : Nat)) (.seq (.reg linear_Decode_r35)
  .ret) .skip)))
  (.seq (.reg linear_Decode_r36)
  .ret)))))))))))))), [.tmp 2, .tmp 3]⟩
theorem linear_Decode_s : slimF Try.prog 10 = some linear_Decode_c := by kernel_rfl
abbrev linear_Decode_f : Nat := 10
/-- printworks/linear.Pattern -/
def linear_Pattern_r0 : List SO := [⟨(some 2), .assign (.const (.slice none 0 0)), none⟩,
  ⟨(some 3), .assign (.const (.int .i64 0)), none⟩]
def linear_Pattern_r1 : List SO := [⟨(some 4), .move (.tmp (0 : Nat)), none⟩,
  ⟨(some 5), .binOp .lss 3 (.tmp (4 : Nat)) (.const (.int .i64 0)) 3, none⟩,
  ⟨(some 6), .move (.tmp (5 : Nat)), none⟩,
  ⟨(some 7), .move (.tmp (0 : Nat)), (some (6, false))⟩,
  ⟨(some 8), .binOp .geq 3 (.tmp (7 : Nat)) (.const (.int .i64 103)) 3, (some (6, false))⟩,
  ⟨(some 9), .pick (.tmp (6 : Nat)) (.const (.bool true)) (.tmp (8 : Nat)), none⟩]
def linear_Pattern_r2 : List SO := [⟨(some 2), .assign (.const (.slice none 0 0)), none⟩,
  ⟨(some 3), .assign (.const (.int .i64 3)), none⟩]
def linear_Pattern_r3 : List SO := [⟨(some 10), .call ⟨(.value (.func (17 : Nat))), #[], #[]⟩, none⟩,
  ⟨(some 11), .move (.tmp (0 : Nat)), none⟩,
  ⟨(some 12), .indexAddr 43 (.tmp (10 : Nat)) (.tmp (11 : Nat)), none⟩,
  ⟨(some 13), .slice 45 (.tmp (12 : Nat)) none none none, none⟩,
  ⟨(some 14), .call ⟨(.builtin .append), #[(.const (.slice none 0 0)), (.tmp (13 : Nat))], #[22, 22]⟩, none⟩,
  ⟨(some 2), .assign (.tmp (14 : Nat)), none⟩,
  ⟨(some 3), .assign (.const (.int .i64 0)), none⟩]
def linear_Pattern_c : SF := ⟨15, (.seq (.reg linear_Pattern_r0)
  (.seq (.seq (.reg linear_Pattern_r1)
  (.cond (.tmp (9 : Nat)) (.seq (.reg linear_Pattern_r2)
  .ret) .skip))
  (.seq (.reg linear_Pattern_r3)
  .ret))), [.tmp 2, .tmp 3]⟩
theorem linear_Pattern_s : slimF Try.prog 11 = some linear_Pattern_c := by kernel_rfl
abbrev linear_Pattern_f : Nat := 11
/-- printworks/linear.Bits -/
def linear_Bits_r0 : List SO := [⟨(some 6), .alloc 37, none⟩,
  ⟨(some 7), .assign (.const (.int .i64 0)), none⟩]
def linear_Bits_r1 : List SO := [⟨(some 19), .move (.tmp (0 : Nat)), none⟩,
  ⟨(some 20), .call ⟨(.value (.func (8 : Nat))), #[(.tmp (19 : Nat))], #[9]⟩, none⟩,
  ⟨(some 18), .move (.tmp (20 : Nat)), none⟩,
  ⟨(some 21), .extract (.tmp (18 : Nat)) 0, none⟩,
  ⟨(some 22), .extract (.tmp (18 : Nat)) 1, none⟩,
  ⟨(some 8), .assign (.tmp (21 : Nat)), none⟩,
  ⟨(some 9), .assign (.tmp (22 : Nat)), none⟩]
def linear_Bits_r2 : List SO := [⟨(some 23), .move (.tmp (9 : Nat)), none⟩,
  ⟨(some 24), .binOp .neq 25 (.tmp (23 : Nat)) (.const (.int .i64 0)) 25, none⟩]
def linear_Bits_r3 : List SO := [⟨(some 25), .build 37 #[], none⟩,
  ⟨(some 26), .move (.tmp (9 : Nat)), none⟩,
  ⟨none, .store 37 (.tmp (6 : Nat)) (.tmp (25 : Nat)), none⟩,
  ⟨(some 7), .assign (.tmp (26 : Nat)), none⟩]
def linear_Bits_r4 : List SO := [⟨(some 27), .move (.tmp (1 : Nat)), none⟩,
  ⟨(some 28), .binOp .lss 3 (.tmp (27 : Nat)) (.const (.int .i64 1)) 3, none⟩,
  ⟨(some 29), .move (.tmp (28 : Nat)), none⟩,
  ⟨(some 30), .move (.tmp (1 : Nat)), (some (29, false))⟩,
  ⟨(some 31), .binOp .gtr 3 (.tmp (30 : Nat)) (.const (.int .i64 8)) 3, (some (29, false))⟩,
  ⟨(some 32), .pick (.tmp (29 : Nat)) (.const (.bool true)) (.tmp (31 : Nat)), none⟩,
  ⟨(some 33), .move (.tmp (32 : Nat)), none⟩,
  ⟨(some 34), .move (.tmp (2 : Nat)), (some (33, false))⟩,
  ⟨(some 35), .binOp .lss 3 (.tmp (34 : Nat)) (.const (.int .i64 1)) 3, (some (33, false))⟩,
  ⟨(some 36), .pick (.tmp (33 : Nat)) (.const (.bool true)) (.tmp (35 : Nat)), none⟩,
  ⟨(some 37), .move (.tmp (36 : Nat)), none⟩,
  ⟨(some 38), .move (.tmp (2 : Nat)), (some (37, false))⟩,
  ⟨(some 39), .binOp .gtr 3 (.tmp (38 : Nat)) (.const (.int .i64 1024)) 3, (some (37, false))⟩,
  ⟨(some 40), .pick (.tmp (37 : Nat)) (.const (.bool true)) (.tmp (39 : Nat)), none⟩]
def linear_Bits_r5 : List SO := [⟨(some 41), .build 37 #[], none⟩,
  ⟨none, .store 37 (.tmp (6 : Nat)) (.tmp (41 : Nat)), none⟩,
  ⟨(some 7), .assign (.const (.int .i64 3)), none⟩]
def linear_Bits_r6 : List SO := [⟨(some 10), .assign (.const (.int .i64 0)), none⟩]
def linear_Bits_r7 : List SO := [⟨(some 42), .move (.tmp (8 : Nat)), none⟩,
  ⟨(some 43), .call ⟨(.builtin .len), #[(.tmp (42 : Nat))], #[22]⟩, none⟩,
  ⟨(some 44), .move (.const (.int .i64 0)), none⟩]
def linear_Bits_r8 : List SO := [⟨(some 45), .binOp .lss 3 (.tmp (44 : Nat)) (.tmp (43 : Nat)) 3, none⟩]
def linear_Bits_r9 : List SO := [⟨(some 46), .indexAddr 22 (.tmp (42 : Nat)) (.tmp (44 : Nat)), none⟩,
  ⟨(some 47), .load 3 (.tmp (46 : Nat)), none⟩,
  ⟨(some 12), .assign (.tmp (47 : Nat)), none⟩]
def linear_Bits_r10 : List SO := [⟨(some 48), .move (.tmp (10 : Nat)), none⟩,
  ⟨(some 49), .move (.tmp (12 : Nat)), none⟩,
  ⟨(some 50), .move (.tmp (1 : Nat)), none⟩,
  ⟨(some 51), .binOp .mul 3 (.tmp (49 : Nat)) (.tmp (50 : Nat)) 3, none⟩,
  ⟨(some 52), .binOp .add 3 (.tmp (48 : Nat)) (.tmp (51 : Nat)) 3, none⟩,
  ⟨(some 10), .assign (.tmp (52 : Nat)), none⟩]
def linear_Bits_r11 : List SO := [⟨(some 53), .binOp .add 3 (.tmp (44 : Nat)) (.const (.int .i64 1)) 3, none⟩,
  ⟨(some 44), .move (.tmp (53 : Nat)), none⟩]
def linear_Bits_r12 : List SO := [⟨(some 54), .move (.tmp (10 : Nat)), none⟩,
  ⟨(some 55), .binOp .gtr 3 (.tmp (54 : Nat)) (.const (.int .i64 1024)) 3, none⟩]
def linear_Bits_r13 : List SO := [⟨(some 56), .build 37 #[], none⟩,
  ⟨none, .store 37 (.tmp (6 : Nat)) (.tmp (56 : Nat)), none⟩,
  ⟨(some 7), .assign (.const (.int .i64 19)), none⟩]
def linear_Bits_r14 : List SO := [⟨(some 57), .move (.tmp (10 : Nat)), none⟩,
  ⟨(some 58), .move (.tmp (2 : Nat)), none⟩,
  ⟨(some 59), .call ⟨(.value (.func (22 : Nat))), #[(.tmp (57 : Nat)), (.tmp (58 : Nat))], #[3, 3]⟩, none⟩,
  ⟨(some 13), .alloc 37, none⟩,
  ⟨none, .store 37 (.tmp (13 : Nat)) (.tmp (59 : Nat)), none⟩]
def linear_Bits_r15 : List SO := [⟨(some 14), .assign (.const (.int .i64 0)), none⟩]
def linear_Bits_r16 : List SO := [⟨(some 60), .move (.tmp (8 : Nat)), none⟩,
  ⟨(some 61), .call ⟨(.builtin .len), #[(.tmp (60 : Nat))], #[22]⟩, none⟩,
  ⟨(some 62), .move (.const (.int .i64 0)), none⟩]
def linear_Bits_r17 : List SO := [⟨(some 63), .binOp .lss 3 (.tmp (62 : Nat)) (.tmp (61 : Nat)) 3, none⟩]
def linear_Bits_r18 : List SO := [⟨(some 64), .move (.tmp (62 : Nat)), none⟩,
  ⟨(some 65), .indexAddr 22 (.tmp (60 : Nat)) (.tmp (62 : Nat)), none⟩,
  ⟨(some 66), .load 3 (.tmp (65 : Nat)), none⟩,
  ⟨(some 15), .assign (.tmp (64 : Nat)), none⟩,
  ⟨(some 16), .assign (.tmp (66 : Nat)), none⟩]
def linear_Bits_r19 : List SO := [⟨(some 67), .move (.tmp (16 : Nat)), none⟩,
  ⟨(some 68), .move (.tmp (1 : Nat)), none⟩,
  ⟨(some 69), .binOp .mul 3 (.tmp (67 : Nat)) (.tmp (68 : Nat)) 3, none⟩,
  ⟨(some 70), .move (.const (.int .i64 0)), none⟩]
def linear_Bits_r20 : List SO := [⟨(some 71), .binOp .lss 3 (.tmp (70 : Nat)) (.tmp (69 : Nat)) 3, none⟩]
def linear_Bits_r21 : List SO := [⟨(some 17), .assign (.const (.int .i64 0)), none⟩]
def linear_Bits_r22 : List SO := [⟨(some 72), .move (.tmp (15 : Nat)), none⟩,
  ⟨(some 73), .binOp .rem 3 (.tmp (72 : Nat)) (.const (.int .i64 2)) 3, none⟩,
  ⟨(some 74), .binOp .eql 3 (.tmp (73 : Nat)) (.const (.int .i64 0)) 3, none⟩,
  ⟨(some 75), .move (.tmp (74 : Nat)), none⟩,
  ⟨(some 76), .move (.tmp (17 : Nat)), (some (75, true))⟩,
  ⟨(some 77), .move (.tmp (2 : Nat)), (some (75, true))⟩,
  ⟨(some 78), .binOp .lss 3 (.tmp (76 : Nat)) (.tmp (77 : Nat)) 3, (some (75, true))⟩,
  ⟨(some 79), .pick (.tmp (75 : Nat)) (.tmp (78 : Nat)) (.const (.bool false)), none⟩]
def linear_Bits_r23 : List SO := [⟨(some 82), .move (.tmp (14 : Nat)), none⟩,
  ⟨(some 83), .move (.tmp (17 : Nat)), none⟩,
  ⟨(some 84), .call ⟨(.value (.func (23 : Nat))), #[(.tmp (13 : Nat)), (.tmp (82 : Nat)), (.tmp (83 : Nat))], #[50, 3, 3]⟩, none⟩]
def linear_Bits_r24 : List SO := [⟨(some 80), .move (.tmp (17 : Nat)), none⟩,
  ⟨(some 81), .binOp .add 3 (.tmp (80 : Nat)) (.const (.int .i64 1)) 3, none⟩,
  ⟨(some 17), .assign (.tmp (81 : Nat)), none⟩]
def linear_Bits_r25 : List SO := [⟨(some 85), .move (.tmp (14 : Nat)), none⟩,
  ⟨(some 86), .binOp .add 3 (.tmp (85 : Nat)) (.const (.int .i64 1)) 3, none⟩,
  ⟨(some 14), .assign (.tmp (86 : Nat)), none⟩]
def linear_Bits_r26 : List SO := [⟨(some 87), .binOp .add 3 (.tmp (70 : Nat)) (.const (.int .i64 1)) 3, none⟩,
  ⟨(some 70), .move (.tmp (87 : Nat)), none⟩]
def linear_Bits_r27 : List SO := [⟨(some 88), .binOp .add 3 (.tmp (62 : Nat)) (.const (.int .i64 1)) 3, none⟩,
  ⟨(some 62), .move (.tmp (88 : Nat)), none⟩]
def linear_Bits_r28 : List SO := [⟨(some 89), .load 37 (.tmp (13 : Nat)), none⟩,
  ⟨none, .store 37 (.tmp (6 : Nat)) (.tmp (89 : Nat)), none⟩,
  ⟨(some 7), .assign (.const (.int .i64 0)), none⟩]
def linear_Bits_c : SF := ⟨90, (.seq (.reg linear_Bits_r0)
  (.seq (.reg linear_Bits_r1)
  (.seq (.seq (.reg linear_Bits_r2)
  (.cond (.tmp (24 : Nat)) (.seq (.reg linear_Bits_r3)
  .ret) .skip))
  (.seq (.seq (.reg linear_Bits_r4)
  (.cond (.tmp (40 : Nat)) (.seq (.reg linear_Bits_r5)
  .ret) .skip))
  (.seq (.reg linear_Bits_r6)
  (.seq (.seq (.reg linear_Bits_r7)
  (.block 0 (.loop (.seq (.reg linear_Bits_r8)
  (.seq (.cond (.tmp (45 : Nat)) .skip (.exit 0))
  (.seq (.block 1 (.seq (.reg linear_Bits_r9)
  (.reg linear_Bits_r10)))
  (.reg linear_Bits_r11)))))))
  (.seq (.seq (.reg linear_Bits_r12)
  (.cond (.tmp (55 : Nat)) (.seq (.reg linear_Bits_r13)
  .ret) .skip))
  (.seq (.reg linear_Bits_r14)
  (.seq (.reg linear_Bits_r15)
  (.seq (.seq (.reg linear_Bits_r16)
  (.block 2 (.loop (.seq (.reg linear_Bits_r17)
  (.seq (.cond (.tmp (63 : Nat)) .skip (.exit 2))
  (.seq (.block 3 (.seq (.reg linear_Bits_r18)
  (.seq (.reg linear_Bits_r19)
  (.block 4 (.loop (.seq (.reg linear_Bits_r20)
  (.seq (.cond (.tmp (71 : Nat)) .skip (.exit 4))
  (.seq (.block 5 (.seq (.seq (.reg linear_Bits_r21)
  (.block 6 (.loop (.seq (.seq (.reg linear_Bits_r22)
  (.cond (.tmp (79 : Nat)) .skip (.exit 6)))
  (.seq (.block 7 (.reg linear_Bits_r23))
  (.reg linear_Bits_r24))))))
  (.reg linear_Bits_r25)))
  (.reg linear_Bits_r26)))))))))
  (.reg linear_Bits_r27)))))))
  (.seq (.reg linear_Bits_r28)
  .ret))))))))))), [.cell 6 37, .tmp 7]⟩
theorem linear_Bits_s : slimF Try.prog 13 = some linear_Bits_c := by kernel_rfl
abbrev linear_Bits_f : Nat := 13
/-- printworks/linear.Scan -/
def linear_Scan_r0 : List SO := [⟨(some 2), .box 37 (.tmp (0 : Nat)), none⟩,
  ⟨(some 4), .assign (.const (.slice none 0 0)), none⟩,
  ⟨(some 5), .assign (.const (.int .i64 0)), none⟩]
def linear_Scan_r1 : List SO := [⟨(some 8), .load 37 (.tmp (2 : Nat)), none⟩,
  ⟨(some 9), .call ⟨(.value (.func (24 : Nat))), #[(.tmp (8 : Nat))], #[37]⟩, none⟩,
  ⟨(some 6), .assign (.tmp (9 : Nat)), none⟩]
def linear_Scan_r2 : List SO := [⟨(some 10), .move (.tmp (6 : Nat)), none⟩,
  ⟨(some 11), .binOp .neq 25 (.tmp (10 : Nat)) (.const (.int .i64 0)) 25, none⟩]
def linear_Scan_r3 : List SO := [⟨(some 12), .move (.tmp (6 : Nat)), none⟩,
  ⟨(some 4), .assign (.const (.slice none 0 0)), none⟩,
  ⟨(some 5), .assign (.tmp (12 : Nat)), none⟩]
def linear_Scan_r4 : List SO := [⟨(some 13), .move (.tmp (1 : Nat)), none⟩,
  ⟨(some 14), .binOp .lss 3 (.tmp (13 : Nat)) (.const (.int .i64 0)) 3, none⟩,
  ⟨(some 15), .move (.tmp (14 : Nat)), none⟩,
  ⟨(some 16), .move (.tmp (1 : Nat)), (some (15, false))⟩,
  ⟨(some 17), .fieldAddr 37 (.tmp (2 : Nat)) 1, (some (15, false))⟩,
  ⟨(some 18), .load 3 (.tmp (17 : Nat)), (some (15, false))⟩,
  ⟨(some 19), .binOp .geq 3 (.tmp (16 : Nat)) (.tmp (18 : Nat)) 3, (some (15, false))⟩,
  ⟨(some 20), .pick (.tmp (15 : Nat)) (.const (.bool true)) (.tmp (19 : Nat)), none⟩]
def linear_Scan_r5 : List SO := [⟨(some 4), .assign (.const (.slice none 0 0)), none⟩,
  ⟨(some 5), .assign (.const (.int .i64 3)), none⟩]
def linear_Scan_r6 : List SO := [⟨(some 21), .move (.tmp (1 : Nat)), none⟩,
  ⟨(some 22), .call ⟨(.value (.func (25 : Nat))), #[(.tmp (2 : Nat)), (.tmp (21 : Nat))], #[50, 3]⟩, none⟩,
  ⟨(some 7), .assign (.tmp (22 : Nat)), none⟩]
def linear_Scan_r7 : List SO := [⟨(some 23), .move (.tmp (7 : Nat)), none⟩,
  ⟨(some 24), .call ⟨(.builtin .len), #[(.tmp (23 : Nat))], #[22]⟩, none⟩,
  ⟨(some 25), .binOp .eql 3 (.tmp (24 : Nat)) (.const (.int .i64 0)) 3, none⟩]
def linear_Scan_r8 : List SO := [⟨(some 4), .assign (.const (.slice none 0 0)), none⟩,
  ⟨(some 5), .assign (.const (.int .i64 8)), none⟩]
def linear_Scan_r9 : List SO := [⟨(some 26), .move (.tmp (7 : Nat)), none⟩,
  ⟨(some 4), .assign (.tmp (26 : Nat)), none⟩,
  ⟨(some 5), .assign (.const (.int .i64 0)), none⟩]
def linear_Scan_c : SF := ⟨27, (.seq (.reg linear_Scan_r0)
  (.seq (.seq (.reg linear_Scan_r1)
  (.seq (.reg linear_Scan_r2)
  (.cond (.tmp (11 : Nat)) (.seq (.reg linear_Scan_r3)
  .ret) .skip)))
  (.seq (.seq (.reg linear_Scan_r4)
  (.cond (.tmp (20 : Nat)) (.seq (.reg linear_Scan_r5)
  .ret) .skip))
  (.seq (.reg linear_Scan_r6)
  (.seq (.seq (.reg linear_Scan_r7)
  (.cond (.tmp (25 : Nat)) (.seq (.reg linear_Scan_r8)
  .ret) .skip))
  (.seq (.reg linear_Scan_r9)
  .ret)))))), [.tmp 4, .tmp 5]⟩
theorem linear_Scan_s : slimF Try.prog 15 = some linear_Scan_c := by kernel_rfl
abbrev linear_Scan_f : Nat := 15
/-- printworks/linear.split -/
def linear_split_r0 : List SO := [⟨(some 2), .assign (.const (.slice none 0 0)), none⟩,
  ⟨(some 3), .assign (.const (.int .i64 0)), none⟩]
def linear_split_r1 : List SO := [⟨(some 7), .move (.tmp (0 : Nat)), none⟩,
  ⟨(some 8), .call ⟨(.builtin .len), #[(.tmp (7 : Nat))], #[9]⟩, none⟩,
  ⟨(some 4), .assign (.tmp (8 : Nat)), none⟩]
def linear_split_r2 : List SO := [⟨(some 10), .move (.tmp (4 : Nat)), none⟩,
  ⟨(some 11), .binOp .eql 3 (.tmp (10 : Nat)) (.const (.int .i64 0)) 3, none⟩,
  ⟨(some 9), .assign (.tmp (11 : Nat)), none⟩]
def linear_split_r3 : List SO := [⟨(some 2), .assign (.const (.slice none 0 0)), none⟩,
  ⟨(some 3), .assign (.const (.int .i64 1)), none⟩]
def linear_split_r4 : List SO := [⟨(some 13), .move (.tmp (4 : Nat)), none⟩,
  ⟨(some 14), .binOp .gtr 3 (.tmp (13 : Nat)) (.const (.int .i64 20)) 3, none⟩,
  ⟨(some 12), .assign (.tmp (14 : Nat)), none⟩]
def linear_split_r5 : List SO := [⟨(some 2), .assign (.const (.slice none 0 0)), none⟩,
  ⟨(some 3), .assign (.const (.int .i64 2)), none⟩]
def linear_split_r6 : List SO := [⟨(some 15), .move (.tmp (0 : Nat)), none⟩,
  ⟨(some 16), .call ⟨(.builtin .len), #[(.tmp (15 : Nat))], #[9]⟩, none⟩,
  ⟨(some 17), .move (.const (.int .i64 0)), none⟩]
def linear_split_r7 : List SO := [⟨(some 18), .binOp .lss 3 (.tmp (17 : Nat)) (.tmp (16 : Nat)) 3, none⟩]
def linear_split_r8 : List SO := [⟨(some 19), .move (.tmp (17 : Nat)), none⟩,
  ⟨(some 5), .assign (.tmp (19 : Nat)), none⟩]
def linear_split_r9 : List SO := [⟨(some 20), .move (.tmp (0 : Nat)), none⟩,
  ⟨(some 21), .move (.tmp (5 : Nat)), none⟩,
  ⟨(some 22), .index 9 (.tmp (20 : Nat)) (.tmp (21 : Nat)), none⟩,
  ⟨(some 23), .binOp .lss 5 (.tmp (22 : Nat)) (.const (.int .u8 48)) 5, none⟩,
  ⟨(some 24), .move (.tmp (23 : Nat)), none⟩,
  ⟨(some 25), .move (.tmp (0 : Nat)), (some (24, false))⟩,
  ⟨(some 26), .move (.tmp (5 : Nat)), (some (24, false))⟩,
  ⟨(some 27), .index 9 (.tmp (25 : Nat)) (.tmp (26 : Nat)), (some (24, false))⟩,
  ⟨(some 28), .binOp .gtr 5 (.tmp (27 : Nat)) (.const (.int .u8 57)) 5, (some (24, false))⟩,
  ⟨(some 29), .pick (.tmp (24 : Nat)) (.const (.bool true)) (.tmp (28 : Nat)), none⟩]
def linear_split_r10 : List SO := [⟨(some 2), .assign (.const (.slice none 0 0)), none⟩,
  ⟨(some 3), .assign (.const (.int .i64 5)), none⟩]
def linear_split_r11 : List SO := [⟨(some 30), .binOp .add 3 (.tmp (17 : Nat)) (.const (.int .i64 1)) 3, none⟩,
  ⟨(some 17), .move (.tmp (30 : Nat)), none⟩]
def linear_split_r12 : List SO := [⟨(some 6), .assign (.const (.slice none 0 0)), none⟩]
def linear_split_r13 : List SO := [⟨(some 31), .move (.tmp (0 : Nat)), none⟩,
  ⟨(some 32), .call ⟨(.builtin .len), #[(.tmp (31 : Nat))], #[9]⟩, none⟩,
  ⟨(some 33), .binOp .rem 3 (.tmp (32 : Nat)) (.const (.int .i64 2)) 3, none⟩,
  ⟨(some 34), .binOp .eql 3 (.tmp (33 : Nat)) (.const (.int .i64 1)) 3, none⟩]
def linear_split_r14 : List SO := [⟨(some 35), .move (.tmp (6 : Nat)), none⟩,
  ⟨(some 36), .buildSlice 22 1 #[(0, (.const (.int .i64 100)))], none⟩,
  ⟨(some 37), .call ⟨(.builtin .append), #[(.tmp (35 : Nat)), (.tmp (36 : Nat))], #[22, 22]⟩, none⟩,
  ⟨(some 38), .move (.tmp (0 : Nat)), none⟩,
  ⟨(some 39), .binOp .add 9 (.const (.string ⟨([48] : List UInt8).toArray⟩)) (.tmp (38 : Nat)) 9, none⟩,
  ⟨(some 6), .assign (.tmp (37 : Nat)), none⟩,
  ⟨(some 0), .assign (.tmp (39 : Nat)), none⟩]
def linear_split_r15 : List SO := [⟨(some 40), .move (.tmp (0 : Nat)), none⟩,
  ⟨(some 41), .call ⟨(.builtin .len), #[(.tmp (40 : Nat))], #[9]⟩, none⟩,
  ⟨(some 42), .binOp .gtr 3 (.tmp (41 : Nat)) (.const (.int .i64 0)) 3, none⟩]
def linear_split_r16 : List SO := [⟨(some 45), .move (.tmp (6 : Nat)), none⟩,
  ⟨(some 46), .move (.tmp (0 : Nat)), none⟩,
  ⟨(some 47), .index 9 (.tmp (46 : Nat)) (.const (.int .i64 0)), none⟩,
  ⟨(some 48), .binOp .sub 5 (.tmp (47 : Nat)) (.const (.int .u8 48)) 5, none⟩,
  ⟨(some 49), .convert 5 3 (.tmp (48 : Nat)), none⟩,
  ⟨(some 50), .binOp .mul 3 (.const (.int .i64 10)) (.tmp (49 : Nat)) 3, none⟩,
  ⟨(some 51), .move (.tmp (0 : Nat)), none⟩,
  ⟨(some 52), .index 9 (.tmp (51 : Nat)) (.const (.int .i64 1)), none⟩,
  ⟨(some 53), .binOp .sub 5 (.tmp (52 : Nat)) (.const (.int .u8 48)) 5, none⟩,
  ⟨(some 54), .convert 5 3 (.tmp (53 : Nat)), none⟩,
  ⟨(some 55), .binOp .add 3 (.tmp (50 : Nat)) (.tmp (54 : Nat)) 3, none⟩,
  ⟨(some 56), .buildSlice 22 1 #[(0, (.tmp (55 : Nat)))], none⟩,
  ⟨(some 57), .call ⟨(.builtin .append), #[(.tmp (45 : Nat)), (.tmp (56 : Nat))], #[22, 22]⟩, none⟩,
  ⟨(some 6), .assign (.tmp (57 : Nat)), none⟩]
def linear_split_a16 : List (List Nat) := [[], [], [1], [2], [3], [4], [], [6], [7], [8], [5, 9], [10], [0, 11], [12, 12, 0, 1, 2, 3, 4, 5, 6, 7, 8, 9, 10, 11, 12]]
def linear_split_r17 : List SO := [⟨(some 43), .move (.tmp (0 : Nat)), none⟩,
  ⟨(some 44), .slice 9 (.tmp (43 : Nat)) (some (.const (.int .i64 2))) none none, none⟩,
  ⟨(some 0), .assign (.tmp (44 : Nat)), none⟩]
def linear_split_r18 : List SO := [⟨(some 58), .move (.tmp (6 : Nat)), none⟩,
  ⟨(some 59), .move (.tmp (6 : Nat)), none⟩,
  ⟨(some 60), .call ⟨(.value (.func (20 : Nat))), #[(.tmp (59 : Nat))], #[22]⟩, none⟩,
  ⟨(some 61), .buildSlice 22 1 #[(0, (.tmp (60 : Nat)))], none⟩,
  ⟨(some 62), .call ⟨(.builtin .append), #[(.tmp (58 : Nat)), (.tmp (61 : Nat))], #[22, 22]⟩, none⟩,
  ⟨(some 2), .assign (.tmp (62 : Nat)), none⟩,
  ⟨(some 3), .assign (.const (.int .i64 0)), none⟩]
def linear_split_c : SF := ⟨63, (.seq (.reg linear_split_r0)
  (.seq (.seq (.reg linear_split_r1)
  (.block 0 (.seq (.reg linear_split_r2)
  (.cond (.tmp (9 : Nat)) (.seq (.reg linear_split_r3)
  .ret) (.seq (.reg linear_split_r4)
  (.cond (.tmp (12 : Nat)) (.seq (.reg linear_split_r5)
  .ret) .skip))))))
  (.seq (.seq (.reg linear_split_r6)
  (.block 1 (.loop (.seq (.reg linear_split_r7)
  (.seq (.cond (.tmp (18 : Nat)) .skip (.exit 1))
  (.seq (.block 2 (.seq (.reg linear_split_r8)
  (.seq (.reg linear_split_r9)
  (.cond (.tmp (29 : Nat)) (.seq (.reg linear_split_r10)
  .ret) .skip))))
  (.reg linear_split_r11)))))))
  (.seq (.reg linear_split_r12)
  (.seq (.seq (.reg linear_split_r13)
  (.cond (.tmp (34 : Nat)) (.reg linear_split_r14) .skip))
  (.seq (.block 3 (.loop (.seq (.seq (.reg linear_split_r15)
  (.cond (.tmp (42 : Nat)) .skip (.exit 3)))
  (.seq (.block 4 (.regd linear_split_r16 linear_split_a16))
  (.reg linear_split_r17)))))
  (.seq (.reg linear_split_r18)
  .ret))))))), [.tmp 2, .tmp 3]⟩
theorem linear_split_s : slimF Try.prog 16 = some linear_split_c := by kernel_rfl
abbrev linear_split_f : Nat := 16
/-- printworks/linear.patterns -/
def linear_patterns_r0 : List SO := [⟨(some 0), .assign (.const (.slice none 0 0)), none⟩]
def linear_patterns_r1 : List SO := [⟨(some 1), .alloc 43, none⟩]
def linear_patterns_r2 : List SO := [⟨(some 2), .alloc 45, none⟩]
def linear_patterns_r3 : List SO := [⟨(some 3), .alloc 53, none⟩]
def linear_patterns_r4 : List SO := [⟨(some 4), .makeFunc (.func (26 : Nat)) #[] #[(.tmp (2 : Nat)), (.tmp (1 : Nat)), (.tmp (3 : Nat))], none⟩,
  ⟨none, .store 53 (.tmp (3 : Nat)) (.tmp (4 : Nat)), none⟩]
def linear_patterns_r5 : List SO := [⟨(some 5), .load 53 (.tmp (3 : Nat)), none⟩,
  ⟨(some 6), .call ⟨(.value (.tmp (5 : Nat))), #[(.const (.int .i64 0)), (.const (.int .i64 11))], #[3, 3]⟩, none⟩]
def linear_patterns_r6 : List SO := [⟨(some 7), .load 43 (.tmp (1 : Nat)), none⟩,
  ⟨(some 8), .slice 43 (.tmp (7 : Nat)) none (some (.const (.int .i64 103))) none, none⟩,
  ⟨(some 0), .assign (.tmp (8 : Nat)), none⟩]
def linear_patterns_c : SF := ⟨9, (.seq (.reg linear_patterns_r0)
  (.seq (.reg linear_patterns_r1)
  (.seq (.reg linear_patterns_r2)
  (.seq (.reg linear_patterns_r3)
  (.seq (.reg linear_patterns_r4)
  (.seq (.reg linear_patterns_r5)
  (.seq (.reg linear_patterns_r6)
  .ret))))))), [.tmp 0]⟩
theorem linear_patterns_s : slimF Try.prog 17 = some linear_patterns_c := by kernel_rfl
abbrev linear_patterns_f : Nat := 17
/-- printworks/linear.value -/
def linear_value_r0 : List SO := [⟨(some 4), .assign (.const (.int .i64 0)), none⟩]
def linear_value_r1 : List SO := [⟨(some 12), .move (.tmp (1 : Nat)), none⟩,
  ⟨(some 13), .indexAddr 22 (.tmp (12 : Nat)) (.const (.int .i64 0)), none⟩,
  ⟨(some 14), .load 3 (.tmp (13 : Nat)), none⟩,
  ⟨(some 15), .move (.tmp (1 : Nat)), none⟩,
  ⟨(some 16), .indexAddr 22 (.tmp (15 : Nat)) (.const (.int .i64 1)), none⟩,
  ⟨(some 17), .load 3 (.tmp (16 : Nat)), none⟩,
  ⟨(some 18), .binOp .add 3 (.tmp (14 : Nat)) (.tmp (17 : Nat)) 3, none⟩,
  ⟨(some 19), .move (.tmp (1 : Nat)), none⟩,
  ⟨(some 20), .indexAddr 22 (.tmp (19 : Nat)) (.const (.int .i64 2)), none⟩,
  ⟨(some 21), .load 3 (.tmp (20 : Nat)), none⟩,
  ⟨(some 22), .binOp .add 3 (.tmp (18 : Nat)) (.tmp (21 : Nat)) 3, none⟩,
  ⟨(some 23), .move (.tmp (1 : Nat)), none⟩,
  ⟨(some 24), .indexAddr 22 (.tmp (23 : Nat)) (.const (.int .i64 3)), none⟩,
  ⟨(some 25), .load 3 (.tmp (24 : Nat)), none⟩,
  ⟨(some 26), .binOp .add 3 (.tmp (22 : Nat)) (.tmp (25 : Nat)) 3, none⟩,
  ⟨(some 27), .move (.tmp (1 : Nat)), none⟩,
  ⟨(some 28), .indexAddr 22 (.tmp (27 : Nat)) (.const (.int .i64 4)), none⟩,
  ⟨(some 29), .load 3 (.tmp (28 : Nat)), none⟩,
  ⟨(some 30), .binOp .add 3 (.tmp (26 : Nat)) (.tmp (29 : Nat)) 3, none⟩,
  ⟨(some 31), .move (.tmp (1 : Nat)), none⟩,
  ⟨(some 32), .indexAddr 22 (.tmp (31 : Nat)) (.const (.int .i64 5)), none⟩,
  ⟨(some 33), .load 3 (.tmp (32 : Nat)), none⟩,
  ⟨(some 34), .binOp .add 3 (.tmp (30 : Nat)) (.tmp (33 : Nat)) 3, none⟩,
  ⟨(some 5), .assign (.tmp (34 : Nat)), none⟩]
def linear_value_a1 : List (List Nat) := [[], [0], [1], [], [3], [4], [2, 5], [], [7], [8], [6, 9], [], [11], [12], [10, 13], [], [15], [16], [14, 17], [], [19], [20], [18, 21], [22, 0, 1, 2, 3, 4, 5, 6, 7, 8, 9, 10, 11, 12, 13, 14, 15, 16, 17, 18, 19, 20, 21, 22]]
def linear_value_r2 : List SO := [⟨(some 6), .alloc 54, none⟩]
def linear_value_r3 : List SO := [⟨(some 35), .move (.const (.int .i64 0)), none⟩]
def linear_value_r4 : List SO := [⟨(some 36), .binOp .lss 3 (.tmp (35 : Nat)) (.const (.int .i64 4)) 3, none⟩]
def linear_value_r5 : List SO := [⟨(some 37), .move (.tmp (35 : Nat)), none⟩,
  ⟨(some 7), .assign (.tmp (37 : Nat)), none⟩]
def linear_value_r6 : List SO := [⟨(some 38), .move (.tmp (7 : Nat)), none⟩,
  ⟨(some 39), .move (.tmp (1 : Nat)), none⟩,
  ⟨(some 40), .move (.tmp (7 : Nat)), none⟩,
  ⟨(some 41), .indexAddr 22 (.tmp (39 : Nat)) (.tmp (40 : Nat)), none⟩,
  ⟨(some 42), .load 3 (.tmp (41 : Nat)), none⟩,
  ⟨(some 43), .move (.tmp (1 : Nat)), none⟩,
  ⟨(some 44), .move (.tmp (7 : Nat)), none⟩,
  ⟨(some 45), .binOp .add 3 (.tmp (44 : Nat)) (.const (.int .i64 1)) 3, none⟩,
  ⟨(some 46), .indexAddr 22 (.tmp (43 : Nat)) (.tmp (45 : Nat)), none⟩,
  ⟨(some 47), .load 3 (.tmp (46 : Nat)), none⟩,
  ⟨(some 48), .binOp .add 3 (.tmp (42 : Nat)) (.tmp (47 : Nat)) 3, none⟩,
  ⟨(some 49), .binOp .mul 3 (.const (.int .i64 11)) (.tmp (48 : Nat)) 3, none⟩,
  ⟨(some 50), .move (.tmp (5 : Nat)), none⟩,
  ⟨(some 51), .call ⟨(.value (.func (27 : Nat))), #[(.tmp (49 : Nat)), (.tmp (50 : Nat))], #[3, 3]⟩, none⟩,
  ⟨(some 52), .indexAddr 54 (.tmp (6 : Nat)) (.tmp (38 : Nat)), none⟩,
  ⟨none, .store 3 (.tmp (52 : Nat)) (.tmp (51 : Nat)), none⟩]
def linear_value_a6 : List (List Nat) := [[], [], [], [1, 2], [3], [], [], [6], [5, 7], [8], [4, 9], [10], [], [11, 12], [0, 0, 1, 2, 3, 4, 5, 6, 7, 8, 9, 10, 11, 12, 13], [14, 13, 13, 0, 1, 2, 3, 4, 5, 6, 7, 8, 9, 10, 11, 12, 13]]
def linear_value_r7 : List SO := [⟨(some 53), .binOp .add 3 (.tmp (35 : Nat)) (.const (.int .i64 1)) 3, none⟩,
  ⟨(some 35), .move (.tmp (53 : Nat)), none⟩]
def linear_value_r8 : List SO := [⟨(some 54), .move (.tmp (0 : Nat)), none⟩,
  ⟨(some 55), .call ⟨(.builtin .len), #[(.tmp (54 : Nat))], #[43]⟩, none⟩,
  ⟨(some 56), .move (.const (.int .i64 0)), none⟩]
def linear_value_r9 : List SO := [⟨(some 57), .binOp .lss 3 (.tmp (56 : Nat)) (.tmp (55 : Nat)) 3, none⟩]
def linear_value_r10 : List SO := [⟨(some 58), .move (.tmp (56 : Nat)), none⟩,
  ⟨(some 59), .indexAddr 43 (.tmp (54 : Nat)) (.tmp (56 : Nat)), none⟩,
  ⟨(some 60), .load 45 (.tmp (59 : Nat)), none⟩,
  ⟨(some 9), .alloc 45, none⟩,
  ⟨(some 8), .assign (.tmp (58 : Nat)), none⟩,
  ⟨none, .store 45 (.tmp (9 : Nat)) (.tmp (60 : Nat)), none⟩]
def linear_value_r11 : List SO := [⟨(some 61), .load 54 (.tmp (6 : Nat)), none⟩,
  ⟨(some 62), .move (.const (.int .i64 0)), none⟩]
def linear_value_r12 : List SO := [⟨(some 63), .binOp .lss 3 (.tmp (62 : Nat)) (.const (.int .i64 4)) 3, none⟩]
def linear_value_r13 : List SO := [⟨(some 64), .move (.tmp (62 : Nat)), none⟩,
  ⟨(some 65), .index 54 (.tmp (61 : Nat)) (.tmp (62 : Nat)), none⟩,
  ⟨(some 10), .assign (.tmp (64 : Nat)), none⟩,
  ⟨(some 11), .assign (.tmp (65 : Nat)), none⟩]
def linear_value_r14 : List SO := [⟨(some 66), .move (.tmp (10 : Nat)), none⟩,
  ⟨(some 67), .indexAddr 45 (.tmp (9 : Nat)) (.tmp (66 : Nat)), none⟩,
  ⟨(some 68), .load 3 (.tmp (67 : Nat)), none⟩,
  ⟨(some 69), .move (.tmp (10 : Nat)), none⟩,
  ⟨(some 70), .binOp .add 3 (.tmp (69 : Nat)) (.const (.int .i64 1)) 3, none⟩,
  ⟨(some 71), .indexAddr 45 (.tmp (9 : Nat)) (.tmp (70 : Nat)), none⟩,
  ⟨(some 72), .load 3 (.tmp (71 : Nat)), none⟩,
  ⟨(some 73), .binOp .add 3 (.tmp (68 : Nat)) (.tmp (72 : Nat)) 3, none⟩,
  ⟨(some 74), .move (.tmp (11 : Nat)), none⟩,
  ⟨(some 75), .binOp .neq 3 (.tmp (73 : Nat)) (.tmp (74 : Nat)) 3, none⟩]
def linear_value_a14 : List (List Nat) := [[], [0], [1], [], [3], [4], [5], [2, 6], [], [7, 8]]
def linear_value_r15 : List SO := [⟨(some 76), .binOp .add 3 (.tmp (62 : Nat)) (.const (.int .i64 1)) 3, none⟩,
  ⟨(some 62), .move (.tmp (76 : Nat)), none⟩]
def linear_value_r16 : List SO := [⟨(some 77), .move (.tmp (8 : Nat)), none⟩,
  ⟨(some 4), .assign (.tmp (77 : Nat)), none⟩]
def linear_value_r17 : List SO := [⟨(some 78), .binOp .add 3 (.tmp (56 : Nat)) (.const (.int .i64 1)) 3, none⟩,
  ⟨(some 56), .move (.tmp (78 : Nat)), none⟩]
def linear_value_r18 : List SO := [⟨(some 4), .assign (.const (.int .i64 (-1))), none⟩]
def linear_value_c : SF := ⟨79, (.seq (.reg linear_value_r0)
  (.scope (.seq (.regd linear_value_r1 linear_value_a1)
  (.seq (.reg linear_value_r2)
  (.seq (.seq (.reg linear_value_r3)
  (.block 0 (.loop (.seq (.reg linear_value_r4)
  (.seq (.cond (.tmp (36 : Nat)) .skip (.exit 0))
  (.seq (.block 1 (.seq (.reg linear_value_r5)
  (.regd linear_value_r6 linear_value_a6)))
  (.reg linear_value_r7)))))))
  (.seq .skip
  (.seq (.seq (.reg linear_value_r8)
  (.block 2 (.loop (.seq (.reg linear_value_r9)
  (.seq (.cond (.tmp (57 : Nat)) .skip (.exit 2))
  (.seq (.block 3 (.seq (.reg linear_value_r10)
  (.seq (.seq (.reg linear_value_r11)
  (.block 4 (.loop (.seq (.reg linear_value_r12)
  (.seq (.cond (.tmp (63 : Nat)) .skip (.exit 4))
  (.seq (.block 5 (.seq (.reg linear_value_r13)
  (.seq (.regd linear_value_r14 linear_value_a14)
  (.cond (.tmp (75 : Nat)) (.exit 3) .skip))))
  (.reg linear_value_r15)))))))
  (.seq (.reg linear_value_r16)
  .ret))))
  (.reg linear_value_r17)))))))
  (.seq (.reg linear_value_r18)
  .ret)))))))), [.tmp 4]⟩
theorem linear_value_s : slimF Try.prog 19 = some linear_value_c := by kernel_rfl
abbrev linear_value_f : Nat := 19
/-- printworks/linear.sum -/
def linear_sum_r0 : List SO := [⟨(some 2), .assign (.const (.int .i64 0)), none⟩]
def linear_sum_r1 : List SO := [⟨(some 3), .assign (.const (.int .i64 0)), none⟩]
def linear_sum_r2 : List SO := [⟨(some 6), .move (.tmp (0 : Nat)), none⟩,
  ⟨(some 7), .call ⟨(.builtin .len), #[(.tmp (6 : Nat))], #[22]⟩, none⟩,
  ⟨(some 8), .move (.const (.int .i64 0)), none⟩]
def linear_sum_r3 : List SO := [⟨(some 9), .binOp .lss 3 (.tmp (8 : Nat)) (.tmp (7 : Nat)) 3, none⟩]
def linear_sum_r4 : List SO := [⟨(some 10), .move (.tmp (8 : Nat)), none⟩,
  ⟨(some 11), .indexAddr 22 (.tmp (6 : Nat)) (.tmp (8 : Nat)), none⟩,
  ⟨(some 12), .load 3 (.tmp (11 : Nat)), none⟩,
  ⟨(some 4), .assign (.tmp (10 : Nat)), none⟩,
  ⟨(some 5), .assign (.tmp (12 : Nat)), none⟩]
def linear_sum_r5 : List SO := [⟨(some 13), .move (.tmp (3 : Nat)), none⟩,
  ⟨(some 14), .move (.tmp (4 : Nat)), none⟩,
  ⟨(some 15), .binOp .add 3 (.tmp (14 : Nat)) (.const (.int .i64 1)) 3, none⟩,
  ⟨(some 16), .move (.tmp (5 : Nat)), none⟩,
  ⟨(some 17), .binOp .mul 3 (.tmp (15 : Nat)) (.tmp (16 : Nat)) 3, none⟩,
  ⟨(some 18), .binOp .add 3 (.tmp (13 : Nat)) (.tmp (17 : Nat)) 3, none⟩,
  ⟨(some 3), .assign (.tmp (18 : Nat)), none⟩]
def linear_sum_r6 : List SO := [⟨(some 19), .binOp .add 3 (.tmp (8 : Nat)) (.const (.int .i64 1)) 3, none⟩,
  ⟨(some 8), .move (.tmp (19 : Nat)), none⟩]
def linear_sum_r7 : List SO := [⟨(some 20), .move (.tmp (3 : Nat)), none⟩,
  ⟨(some 21), .binOp .rem 3 (.tmp (20 : Nat)) (.const (.int .i64 101)) 3, none⟩,
  ⟨(some 2), .assign (.tmp (21 : Nat)), none⟩]
def linear_sum_c : SF := ⟨22, (.seq (.reg linear_sum_r0)
  (.seq (.reg linear_sum_r1)
  (.seq (.seq (.reg linear_sum_r2)
  (.block 0 (.loop (.seq (.reg linear_sum_r3)
  (.seq (.cond (.tmp (9 : Nat)) .skip (.exit 0))
  (.seq (.block 1 (.seq (.reg linear_sum_r4)
  (.reg linear_sum_r5)))
  (.reg linear_sum_r6)))))))
  (.seq (.reg linear_sum_r7)
  .ret)))), [.tmp 2]⟩
theorem linear_sum_s : slimF Try.prog 20 = some linear_sum_c := by kernel_rfl
abbrev linear_sum_f : Nat := 20
/-- printworks/linear.digits -/
def linear_digits_r0 : List SO := [⟨(some 2), .assign (.const (.string ⟨([] : List UInt8).toArray⟩)), none⟩,
  ⟨(some 3), .assign (.const (.int .i64 0)), none⟩]
def linear_digits_r1 : List SO := [⟨(some 4), .assign (.const (.int .i64 0)), none⟩]
def linear_digits_r2 : List SO := [⟨(some 8), .move (.tmp (0 : Nat)), none⟩,
  ⟨(some 9), .indexAddr 22 (.tmp (8 : Nat)) (.const (.int .i64 0)), none⟩,
  ⟨(some 10), .load 3 (.tmp (9 : Nat)), none⟩,
  ⟨(some 11), .binOp .eql 3 (.tmp (10 : Nat)) (.const (.int .i64 100)) 3, none⟩]
def linear_digits_r3 : List SO := [⟨(some 12), .move (.tmp (0 : Nat)), none⟩,
  ⟨(some 13), .slice 22 (.tmp (12 : Nat)) (some (.const (.int .i64 1))) none none, none⟩,
  ⟨(some 0), .assign (.tmp (13 : Nat)), none⟩,
  ⟨(some 4), .assign (.const (.int .i64 1)), none⟩]
def linear_digits_r4 : List SO := [⟨(some 5), .assign (.const (.slice none 0 0)), none⟩]
def linear_digits_r5 : List SO := [⟨(some 14), .move (.tmp (0 : Nat)), none⟩,
  ⟨(some 15), .call ⟨(.builtin .len), #[(.tmp (14 : Nat))], #[22]⟩, none⟩,
  ⟨(some 16), .move (.const (.int .i64 0)), none⟩]
def linear_digits_r6 : List SO := [⟨(some 17), .binOp .lss 3 (.tmp (16 : Nat)) (.tmp (15 : Nat)) 3, none⟩]
def linear_digits_r7 : List SO := [⟨(some 18), .indexAddr 22 (.tmp (14 : Nat)) (.tmp (16 : Nat)), none⟩,
  ⟨(some 19), .load 3 (.tmp (18 : Nat)), none⟩,
  ⟨(some 7), .assign (.tmp (19 : Nat)), none⟩]
def linear_digits_r8 : List SO := [⟨(some 20), .move (.tmp (7 : Nat)), none⟩,
  ⟨(some 21), .binOp .geq 3 (.tmp (20 : Nat)) (.const (.int .i64 100)) 3, none⟩]
def linear_digits_r9 : List SO := [⟨(some 2), .assign (.const (.string ⟨([] : List UInt8).toArray⟩)), none⟩,
  ⟨(some 3), .assign (.const (.int .i64 4)), none⟩]
def linear_digits_r10 : List SO := [⟨(some 22), .move (.tmp (5 : Nat)), none⟩,
  ⟨(some 23), .move (.tmp (7 : Nat)), none⟩,
  ⟨(some 24), .binOp .quo 3 (.tmp (23 : Nat)) (.const (.int .i64 10)) 3, none⟩,
  ⟨(some 25), .binOp .add 3 (.const (.int .i64 48)) (.tmp (24 : Nat)) 3, none⟩,
  ⟨(some 26), .convert 3 5 (.tmp (25 : Nat)), none⟩,
  ⟨(some 27), .move (.tmp (7 : Nat)), none⟩,
  ⟨(some 28), .binOp .rem 3 (.tmp (27 : Nat)) (.const (.int .i64 10)) 3, none⟩,
  ⟨(some 29), .binOp .add 3 (.const (.int .i64 48)) (.tmp (28 : Nat)) 3, none⟩,
  ⟨(some 30), .convert 3 5 (.tmp (29 : Nat)), none⟩,
  ⟨(some 31), .buildSlice 35 2 #[(0, (.tmp (26 : Nat))), (1, (.tmp (30 : Nat)))], none⟩,
  ⟨(some 32), .call ⟨(.builtin .append), #[(.tmp (22 : Nat)), (.tmp (31 : Nat))], #[35, 35]⟩, none⟩,
  ⟨(some 5), .assign (.tmp (32 : Nat)), none⟩]
def linear_digits_r11 : List SO := [⟨(some 33), .binOp .add 3 (.tmp (16 : Nat)) (.const (.int .i64 1)) 3, none⟩,
  ⟨(some 16), .move (.tmp (33 : Nat)), none⟩]
def linear_digits_r12 : List SO := [⟨(some 34), .move (.tmp (4 : Nat)), none⟩,
  ⟨(some 35), .move (.tmp (5 : Nat)), none⟩,
  ⟨(some 36), .call ⟨(.builtin .len), #[(.tmp (35 : Nat))], #[35]⟩, none⟩,
  ⟨(some 37), .binOp .geq 3 (.tmp (34 : Nat)) (.tmp (36 : Nat)) 3, none⟩,
  ⟨(some 38), .move (.tmp (37 : Nat)), none⟩,
  ⟨(some 39), .move (.tmp (4 : Nat)), (some (38, false))⟩,
  ⟨(some 40), .binOp .eql 3 (.tmp (39 : Nat)) (.const (.int .i64 1)) 3, (some (38, false))⟩,
  ⟨(some 41), .move (.tmp (40 : Nat)), (some (38, false))⟩,
  ⟨(some 42), .move (.tmp (5 : Nat)), (some (41, true))⟩,
  ⟨(some 43), .indexAddr 35 (.tmp (42 : Nat)) (.const (.int .i64 0)), (some (41, true))⟩,
  ⟨(some 44), .load 5 (.tmp (43 : Nat)), (some (41, true))⟩,
  ⟨(some 45), .binOp .neq 5 (.tmp (44 : Nat)) (.const (.int .u8 48)) 5, (some (41, true))⟩,
  ⟨(some 46), .pick (.tmp (41 : Nat)) (.tmp (45 : Nat)) (.const (.bool false)), (some (38, false))⟩,
  ⟨(some 47), .pick (.tmp (38 : Nat)) (.const (.bool true)) (.tmp (46 : Nat)), none⟩]
def linear_digits_r13 : List SO := [⟨(some 2), .assign (.const (.string ⟨([] : List UInt8).toArray⟩)), none⟩,
  ⟨(some 3), .assign (.const (.int .i64 4)), none⟩]
def linear_digits_r14 : List SO := [⟨(some 48), .move (.tmp (5 : Nat)), none⟩,
  ⟨(some 49), .move (.tmp (4 : Nat)), none⟩,
  ⟨(some 50), .slice 35 (.tmp (48 : Nat)) (some (.tmp (49 : Nat))) none none, none⟩,
  ⟨(some 51), .convert 35 9 (.tmp (50 : Nat)), none⟩,
  ⟨(some 2), .assign (.tmp (51 : Nat)), none⟩,
  ⟨(some 3), .assign (.const (.int .i64 0)), none⟩]
def linear_digits_c : SF := ⟨52, (.seq (.reg linear_digits_r0)
  (.seq (.reg linear_digits_r1)
  (.seq (.seq (.reg linear_digits_r2)
  (.cond (.tmp (11 : Nat)) (.reg linear_digits_r3) .skip))
  (.seq (.reg linear_digits_r4)
  (.seq (.seq (.reg linear_digits_r5)
  (.block 0 (.loop (.seq (.reg linear_digits_r6)
  (.seq (.cond (.tmp (17 : Nat)) .skip (.exit 0))
  (.seq (.block 1 (.seq (.reg linear_digits_r7)
  (.seq (.seq (.reg linear_digits_r8)
  (.cond (.tmp (21 : Nat)) (.seq (.reg linear_digits_r9)
  .ret) .skip))
  (.reg linear_digits_r10))))
  (.reg linear_digits_r11)))))))
  (.seq (.seq (.reg linear_digits_r12)
  (.cond (.tmp (47 : Nat)) (.seq (.reg linear_digits_r13)
  .ret) .skip))
  (.seq (.reg linear_digits_r14)
  .ret))))))), [.tmp 2, .tmp 3]⟩
theorem linear_digits_s : slimF Try.prog 21 = some linear_digits_c := by kernel_rfl
abbrev linear_digits_f : Nat := 21
/-- printworks/linear.Row -/
def linear_Row_r0 : List SO := [⟨(some 4), .assign (.const (.slice none 0 0)), none⟩]
def linear_Row_r1 : List SO := [⟨(some 5), .alloc 22, none⟩]
def linear_Row_r2 : List SO := [⟨(some 6), .alloc 3, none⟩,
  ⟨none, .store 3 (.tmp (6 : Nat)) (.const (.int .i64 (-1))), none⟩]
def linear_Row_r3 : List SO := [⟨(some 8), .move (.tmp (0 : Nat)), none⟩,
  ⟨(some 9), .move (.tmp (1 : Nat)), none⟩,
  ⟨(some 10), .call ⟨(.value (.func (29 : Nat))), #[(.tmp (8 : Nat)), (.tmp (9 : Nat))], #[50, 3]⟩, none⟩]
def linear_Row_r4 : List SO := [⟨(some 7), .alloc 60, none⟩,
  ⟨none, .store 60 (.tmp (7 : Nat)) (.tmp (11 : Nat)), none⟩]
def linear_Row_r5 : List SO := [⟨(some 12), .load 3 (.tmp (6 : Nat)), none⟩,
  ⟨(some 13), .binOp .geq 3 (.tmp (12 : Nat)) (.const (.int .i64 0)) 3, none⟩]
def linear_Row_r6 : List SO := [⟨(some 14), .load 22 (.tmp (5 : Nat)), none⟩,
  ⟨(some 15), .fieldAddr 60 (.tmp (7 : Nat)) 1, none⟩,
  ⟨(some 16), .load 3 (.tmp (15 : Nat)), none⟩,
  ⟨(some 17), .load 3 (.tmp (6 : Nat)), none⟩,
  ⟨(some 18), .binOp .sub 3 (.tmp (16 : Nat)) (.tmp (17 : Nat)) 3, none⟩,
  ⟨(some 19), .buildSlice 22 1 #[(0, (.tmp (18 : Nat)))], none⟩,
  ⟨(some 20), .call ⟨(.builtin .append), #[(.tmp (14 : Nat)), (.tmp (19 : Nat))], #[22, 22]⟩, none⟩,
  ⟨none, .store 22 (.tmp (5 : Nat)) (.tmp (20 : Nat)), none⟩]
def linear_Row_r7 : List SO := [⟨(some 21), .load 22 (.tmp (5 : Nat)), none⟩,
  ⟨(some 22), .fieldAddr 60 (.tmp (7 : Nat)) 2, none⟩,
  ⟨(some 23), .load 3 (.tmp (22 : Nat)), none⟩,
  ⟨(some 24), .fieldAddr 60 (.tmp (7 : Nat)) 1, none⟩,
  ⟨(some 25), .load 3 (.tmp (24 : Nat)), none⟩,
  ⟨(some 26), .binOp .sub 3 (.tmp (23 : Nat)) (.tmp (25 : Nat)) 3, none⟩,
  ⟨(some 27), .buildSlice 22 1 #[(0, (.tmp (26 : Nat)))], none⟩,
  ⟨(some 28), .call ⟨(.builtin .append), #[(.tmp (21 : Nat)), (.tmp (27 : Nat))], #[22, 22]⟩, none⟩,
  ⟨none, .store 22 (.tmp (5 : Nat)) (.tmp (28 : Nat)), none⟩]
def linear_Row_r8 : List SO := [⟨(some 29), .fieldAddr 60 (.tmp (7 : Nat)) 2, none⟩,
  ⟨(some 30), .load 3 (.tmp (29 : Nat)), none⟩,
  ⟨none, .store 3 (.tmp (6 : Nat)) (.tmp (30 : Nat)), none⟩]
def linear_Row_r9 : List SO := [⟨(some 31), .load 22 (.tmp (5 : Nat)), none⟩,
  ⟨(some 4), .assign (.tmp (31 : Nat)), none⟩]
def linear_Row_c : SF := ⟨32, (.seq (.reg linear_Row_r0)
  (.seq (.reg linear_Row_r1)
  (.seq (.reg linear_Row_r2)
  (.seq (.seq (.reg linear_Row_r3)
  (.block 0 (.rf (.tmp (10 : Nat)) [11] (.reg linear_Row_r4) (.block 1 (.seq (.seq (.reg linear_Row_r5)
  (.cond (.tmp (13 : Nat)) (.reg linear_Row_r6) .skip))
  (.seq (.reg linear_Row_r7)
  (.reg linear_Row_r8)))))))
  (.seq (.reg linear_Row_r9)
  .ret))))), [.tmp 4]⟩
theorem linear_Row_s : slimF Try.prog 25 = some linear_Row_c := by kernel_rfl
abbrev linear_Row_f : Nat := 25
/-- printworks/linear.patterns$1 -/
def linear_patterns_1_r0 : List SO := [⟨(some 8), .move (.tmp (0 : Nat)), none⟩,
  ⟨(some 9), .binOp .eql 3 (.tmp (8 : Nat)) (.const (.int .i64 5)) 3, none⟩]
def linear_patterns_1_r1 : List SO := [⟨(some 10), .move (.tmp (1 : Nat)), none⟩,
  ⟨(some 11), .indexAddr 45 (.tmp (2 : Nat)) (.const (.int .i64 5)), none⟩,
  ⟨none, .store 3 (.tmp (11 : Nat)) (.tmp (10 : Nat)), none⟩]
def linear_patterns_1_r2 : List SO := [⟨(some 12), .move (.tmp (1 : Nat)), none⟩,
  ⟨(some 13), .binOp .leq 3 (.tmp (12 : Nat)) (.const (.int .i64 4)) 3, none⟩,
  ⟨(some 14), .move (.tmp (13 : Nat)), none⟩,
  ⟨(some 15), .indexAddr 45 (.tmp (2 : Nat)) (.const (.int .i64 0)), (some (14, true))⟩,
  ⟨(some 16), .load 3 (.tmp (15 : Nat)), (some (14, true))⟩,
  ⟨(some 17), .indexAddr 45 (.tmp (2 : Nat)) (.const (.int .i64 2)), (some (14, true))⟩,
  ⟨(some 18), .load 3 (.tmp (17 : Nat)), (some (14, true))⟩,
  ⟨(some 19), .binOp .add 3 (.tmp (16 : Nat)) (.tmp (18 : Nat)) 3, (some (14, true))⟩,
  ⟨(some 20), .indexAddr 45 (.tmp (2 : Nat)) (.const (.int .i64 4)), (some (14, true))⟩,
  ⟨(some 21), .load 3 (.tmp (20 : Nat)), (some (14, true))⟩,
  ⟨(some 22), .binOp .add 3 (.tmp (19 : Nat)) (.tmp (21 : Nat)) 3, (some (14, true))⟩,
  ⟨(some 23), .binOp .rem 3 (.tmp (22 : Nat)) (.const (.int .i64 2)) 3, (some (14, true))⟩,
  ⟨(some 24), .binOp .eql 3 (.tmp (23 : Nat)) (.const (.int .i64 0)) 3, (some (14, true))⟩,
  ⟨(some 25), .pick (.tmp (14 : Nat)) (.tmp (24 : Nat)) (.const (.bool false)), none⟩]
def linear_patterns_1_r3 : List SO := [⟨(some 26), .load 43 (.tmp (3 : Nat)), none⟩,
  ⟨(some 27), .load 45 (.tmp (2 : Nat)), none⟩,
  ⟨(some 28), .buildSlice 43 1 #[(0, (.tmp (27 : Nat)))], none⟩,
  ⟨(some 29), .call ⟨(.builtin .append), #[(.tmp (26 : Nat)), (.tmp (28 : Nat))], #[43, 43]⟩, none⟩,
  ⟨none, .store 43 (.tmp (3 : Nat)) (.tmp (29 : Nat)), none⟩]
def linear_patterns_1_r4 : List SO := [⟨(some 7), .assign (.const (.int .i64 1)), none⟩]
def linear_patterns_1_r5 : List SO := [⟨(some 30), .move (.tmp (7 : Nat)), none⟩,
  ⟨(some 31), .binOp .leq 3 (.tmp (30 : Nat)) (.const (.int .i64 4)) 3, none⟩,
  ⟨(some 32), .move (.tmp (31 : Nat)), none⟩,
  ⟨(some 33), .move (.tmp (7 : Nat)), (some (32, true))⟩,
  ⟨(some 34), .move (.tmp (1 : Nat)), (some (32, true))⟩,
  ⟨(some 35), .binOp .lss 3 (.tmp (33 : Nat)) (.tmp (34 : Nat)) 3, (some (32, true))⟩,
  ⟨(some 36), .pick (.tmp (32 : Nat)) (.tmp (35 : Nat)) (.const (.bool false)), none⟩]
def linear_patterns_1_r6 : List SO := [⟨(some 39), .move (.tmp (0 : Nat)), none⟩,
  ⟨(some 40), .move (.tmp (7 : Nat)), none⟩,
  ⟨(some 41), .indexAddr 45 (.tmp (2 : Nat)) (.tmp (39 : Nat)), none⟩,
  ⟨none, .store 3 (.tmp (41 : Nat)) (.tmp (40 : Nat)), none⟩]
def linear_patterns_1_r7 : List SO := [⟨(some 42), .load 53 (.tmp (4 : Nat)), none⟩,
  ⟨(some 43), .move (.tmp (0 : Nat)), none⟩,
  ⟨(some 44), .binOp .add 3 (.tmp (43 : Nat)) (.const (.int .i64 1)) 3, none⟩,
  ⟨(some 45), .move (.tmp (1 : Nat)), none⟩,
  ⟨(some 46), .move (.tmp (7 : Nat)), none⟩,
  ⟨(some 47), .binOp .sub 3 (.tmp (45 : Nat)) (.tmp (46 : Nat)) 3, none⟩,
  ⟨(some 48), .call ⟨(.value (.tmp (42 : Nat))), #[(.tmp (44 : Nat)), (.tmp (47 : Nat))], #[3, 3]⟩, none⟩]
def linear_patterns_1_r8 : List SO := [⟨(some 37), .move (.tmp (7 : Nat)), none⟩,
  ⟨(some 38), .binOp .add 3 (.tmp (37 : Nat)) (.const (.int .i64 1)) 3, none⟩,
  ⟨(some 7), .assign (.tmp (38 : Nat)), none⟩]
def linear_patterns_1_c : SF := ⟨49, (.seq (.seq (.reg linear_patterns_1_r0)
  (.cond (.tmp (9 : Nat)) (.seq (.seq (.reg linear_patterns_1_r1)
  (.seq (.reg linear_patterns_1_r2)
  (.cond (.tmp (25 : Nat)) (.reg linear_patterns_1_r3) .skip)))
  .ret) .skip))
  (.seq (.reg linear_patterns_1_r4)
  (.block 0 (.loop (.seq (.seq (.reg linear_patterns_1_r5)
  (.cond (.tmp (36 : Nat)) .skip (.exit 0)))
  (.seq (.block 1 (.seq (.reg linear_patterns_1_r6)
  (.reg linear_patterns_1_r7)))
  (.reg linear_patterns_1_r8))))))), []⟩
theorem linear_patterns_1_s : slimF Try.prog 26 = some linear_patterns_1_c := by kernel_rfl
abbrev linear_patterns_1_f : Nat := 26

end Go.Proofs.Ytbfflfinhigfeaa
namespace Go.Proofs.Ytbfflfinhigfeaa
open Go Go.Lite
set_option linter.unusedVariables false

/-- printworks/curve.Nearest -/
def curve_Nearest_r0 : List SO := [⟨(some 4), .assign (.const (.int .i64 0)), none⟩]
def curve_Nearest_r1 : List SO := [⟨(some 6), .move (.tmp (0 : Nat)), none⟩,
  ⟨(some 7), .binOp .mul 3 (.const (.int .i64 2)) (.tmp (6 : Nat)) 3, none⟩,
  ⟨(some 8), .move (.tmp (1 : Nat)), none⟩,
  ⟨(some 9), .binOp .add 3 (.tmp (7 : Nat)) (.tmp (8 : Nat)) 3, none⟩,
  ⟨(some 10), .move (.tmp (1 : Nat)), none⟩,
  ⟨(some 11), .binOp .mul 3 (.const (.int .i64 2)) (.tmp (10 : Nat)) 3, none⟩,
  ⟨(some 0), .assign (.tmp (9 : Nat)), none⟩,
  ⟨(some 1), .assign (.tmp (11 : Nat)), none⟩]
def curve_Nearest_r2 : List SO := [⟨(some 12), .move (.tmp (0 : Nat)), none⟩,
  ⟨(some 13), .move (.tmp (1 : Nat)), none⟩,
  ⟨(some 14), .binOp .quo 3 (.tmp (12 : Nat)) (.tmp (13 : Nat)) 3, none⟩,
  ⟨(some 5), .assign (.tmp (14 : Nat)), none⟩]
def curve_Nearest_r3 : List SO := [⟨(some 15), .move (.tmp (0 : Nat)), none⟩,
  ⟨(some 16), .move (.tmp (1 : Nat)), none⟩,
  ⟨(some 17), .binOp .rem 3 (.tmp (15 : Nat)) (.tmp (16 : Nat)) 3, none⟩,
  ⟨(some 18), .binOp .lss 3 (.tmp (17 : Nat)) (.const (.int .i64 0)) 3, none⟩]
def curve_Nearest_r4 : List SO := [⟨(some 19), .move (.tmp (5 : Nat)), none⟩,
  ⟨(some 20), .binOp .sub 3 (.tmp (19 : Nat)) (.const (.int .i64 1)) 3, none⟩,
  ⟨(some 5), .assign (.tmp (20 : Nat)), none⟩]
def curve_Nearest_r5 : List SO := [⟨(some 21), .move (.tmp (5 : Nat)), none⟩,
  ⟨(some 4), .assign (.tmp (21 : Nat)), none⟩]
def curve_Nearest_c : SF := ⟨22, (.seq (.reg curve_Nearest_r0)
  (.seq (.reg curve_Nearest_r1)
  (.seq (.reg curve_Nearest_r2)
  (.seq (.seq (.reg curve_Nearest_r3)
  (.cond (.tmp (18 : Nat)) (.reg curve_Nearest_r4) .skip))
  (.seq (.reg curve_Nearest_r5)
  .ret))))), [.tmp 4]⟩
theorem curve_Nearest_s : slimF Try.prog 27 = some curve_Nearest_c := by kernel_rfl
abbrev curve_Nearest_f : Nat := 27

end Go.Proofs.Ytbfflfinhigfeaa
namespace Go.Proofs.Ytbfflfinhigfeaa
open Go Go.Lite
set_option linter.unusedVariables false

/-- printworks/printworksref2.Mod -/
def R2_Mod_r0 : List SO := [⟨(some 4), .assign (.const (.int .i64 0)), none⟩]
def R2_Mod_r1 : List SO := [⟨(some 5), .move (.tmp (0 : Nat)), none⟩,
  ⟨(some 6), .move (.tmp (1 : Nat)), none⟩,
  ⟨(some 7), .move (.tmp (0 : Nat)), none⟩,
  ⟨(some 8), .move (.tmp (1 : Nat)), none⟩,
  ⟨(some 9), .call ⟨(.value (.func (18 : Nat))), #[(.tmp (7 : Nat)), (.tmp (8 : Nat))], #[3, 3]⟩, none⟩,
  ⟨(some 10), .binOp .mul 3 (.tmp (6 : Nat)) (.tmp (9 : Nat)) 3, none⟩,
  ⟨(some 11), .binOp .sub 3 (.tmp (5 : Nat)) (.tmp (10 : Nat)) 3, none⟩,
  ⟨(some 4), .assign (.tmp (11 : Nat)), none⟩]
def R2_Mod_c : SF := ⟨12, (.seq (.reg R2_Mod_r0)
  (.seq (.reg R2_Mod_r1)
  .ret)), [.tmp 4]⟩
theorem R2_Mod_s : slimF Try.prog 9 = some R2_Mod_c := by kernel_rfl
abbrev R2_Mod_f : Nat := 9
/-- printworks/printworksref2.SameInts -/
def R2_SameInts_r0 : List SO := [⟨(some 4), .assign (.const (.bool false)), none⟩]
def R2_SameInts_r1 : List SO := [⟨(some 6), .move (.tmp (0 : Nat)), none⟩,
  ⟨(some 7), .call ⟨(.builtin .len), #[(.tmp (6 : Nat))], #[22]⟩, none⟩,
  ⟨(some 8), .move (.tmp (1 : Nat)), none⟩,
  ⟨(some 9), .call ⟨(.builtin .len), #[(.tmp (8 : Nat))], #[22]⟩, none⟩,
  ⟨(some 10), .binOp .neq 3 (.tmp (7 : Nat)) (.tmp (9 : Nat)) 3, none⟩]
def R2_SameInts_r2 : List SO := [⟨(some 4), .assign (.const (.bool false)), none⟩]
def R2_SameInts_r3 : List SO := [⟨(some 11), .move (.tmp (0 : Nat)), none⟩,
  ⟨(some 12), .call ⟨(.builtin .len), #[(.tmp (11 : Nat))], #[22]⟩, none⟩,
  ⟨(some 13), .move (.const (.int .i64 0)), none⟩]
def R2_SameInts_r4 : List SO := [⟨(some 14), .binOp .lss 3 (.tmp (13 : Nat)) (.tmp (12 : Nat)) 3, none⟩]
def R2_SameInts_r5 : List SO := [⟨(some 15), .move (.tmp (13 : Nat)), none⟩,
  ⟨(some 5), .assign (.tmp (15 : Nat)), none⟩]
def R2_SameInts_r6 : List SO := [⟨(some 16), .move (.tmp (0 : Nat)), none⟩,
  ⟨(some 17), .move (.tmp (5 : Nat)), none⟩,
  ⟨(some 18), .indexAddr 22 (.tmp (16 : Nat)) (.tmp (17 : Nat)), none⟩,
  ⟨(some 19), .load 3 (.tmp (18 : Nat)), none⟩,
  ⟨(some 20), .move (.tmp (1 : Nat)), none⟩,
  ⟨(some 21), .move (.tmp (5 : Nat)), none⟩,
  ⟨(some 22), .indexAddr 22 (.tmp (20 : Nat)) (.tmp (21 : Nat)), none⟩,
  ⟨(some 23), .load 3 (.tmp (22 : Nat)), none⟩,
  ⟨(some 24), .binOp .neq 3 (.tmp (19 : Nat)) (.tmp (23 : Nat)) 3, none⟩]
def R2_SameInts_a6 : List (List Nat) := [[], [], [0, 1], [2], [], [], [4, 5], [6], [3, 7]]
def R2_SameInts_r7 : List SO := [⟨(some 4), .assign (.const (.bool false)), none⟩]
def R2_SameInts_r8 : List SO := [⟨(some 25), .binOp .add 3 (.tmp (13 : Nat)) (.const (.int .i64 1)) 3, none⟩,
  ⟨(some 13), .move (.tmp (25 : Nat)), none⟩]
def R2_SameInts_r9 : List SO := [⟨(some 4), .assign (.const (.bool true)), none⟩]
def R2_SameInts_c : SF := ⟨26, (.seq (.reg R2_SameInts_r0)
  (.seq (.seq (.reg R2_SameInts_r1)
  (.cond (.tmp (10 : Nat)) (.seq (.reg R2_SameInts_r2)
  .ret) .skip))
  (.seq (.seq (.reg R2_SameInts_r3)
  (.block 0 (.loop (.seq (.reg R2_SameInts_r4)
  (.seq (.cond (.tmp (14 : Nat)) .skip (.exit 0))
  (.seq (.block 1 (.seq (.reg R2_SameInts_r5)
  (.seq (.regd R2_SameInts_r6 R2_SameInts_a6)
  (.cond (.tmp (24 : Nat)) (.seq (.reg R2_SameInts_r7)
  .ret) .skip))))
  (.reg R2_SameInts_r8)))))))
  (.seq (.reg R2_SameInts_r9)
  .ret)))), [.tmp 4]⟩
theorem R2_SameInts_s : slimF Try.prog 12 = some R2_SameInts_c := by kernel_rfl
abbrev R2_SameInts_f : Nat := 12
/-- printworks/printworksref2.NoBits -/
def R2_NoBits_r0 : List SO := [⟨(some 1), .box 37 (.tmp (0 : Nat)), none⟩,
  ⟨(some 2), .assign (.const (.bool false)), none⟩]
def R2_NoBits_r1 : List SO := [⟨(some 3), .fieldAddr 37 (.tmp (1 : Nat)) 0, none⟩,
  ⟨(some 4), .load 3 (.tmp (3 : Nat)), none⟩,
  ⟨(some 5), .binOp .eql 3 (.tmp (4 : Nat)) (.const (.int .i64 0)) 3, none⟩,
  ⟨(some 6), .move (.tmp (5 : Nat)), none⟩,
  ⟨(some 7), .fieldAddr 37 (.tmp (1 : Nat)) 1, (some (6, true))⟩,
  ⟨(some 8), .load 3 (.tmp (7 : Nat)), (some (6, true))⟩,
  ⟨(some 9), .binOp .eql 3 (.tmp (8 : Nat)) (.const (.int .i64 0)) 3, (some (6, true))⟩,
  ⟨(some 10), .pick (.tmp (6 : Nat)) (.tmp (9 : Nat)) (.const (.bool false)), none⟩,
  ⟨(some 11), .move (.tmp (10 : Nat)), none⟩,
  ⟨(some 12), .fieldAddr 37 (.tmp (1 : Nat)) 2, (some (11, true))⟩,
  ⟨(some 13), .load 35 (.tmp (12 : Nat)), (some (11, true))⟩,
  ⟨(some 14), .call ⟨(.builtin .len), #[(.tmp (13 : Nat))], #[35]⟩, (some (11, true))⟩,
  ⟨(some 15), .binOp .eql 3 (.tmp (14 : Nat)) (.const (.int .i64 0)) 3, (some (11, true))⟩,
  ⟨(some 16), .pick (.tmp (11 : Nat)) (.tmp (15 : Nat)) (.const (.bool false)), none⟩,
  ⟨(some 2), .assign (.tmp (16 : Nat)), none⟩]
def R2_NoBits_c : SF := ⟨17, (.seq (.reg R2_NoBits_r0)
  (.seq (.reg R2_NoBits_r1)
  .ret)), [.tmp 2]⟩
theorem R2_NoBits_s : slimF Try.prog 14 = some R2_NoBits_c := by kernel_rfl
abbrev R2_NoBits_f : Nat := 14
/-- printworks/printworksref2.Floor -/
def R2_Floor_r0 : List SO := [⟨(some 4), .assign (.const (.int .i64 0)), none⟩]
def R2_Floor_r1 : List SO := [⟨(some 6), .move (.tmp (0 : Nat)), none⟩,
  ⟨(some 7), .move (.tmp (1 : Nat)), none⟩,
  ⟨(some 8), .binOp .quo 3 (.tmp (6 : Nat)) (.tmp (7 : Nat)) 3, none⟩,
  ⟨(some 5), .assign (.tmp (8 : Nat)), none⟩]
def R2_Floor_r2 : List SO := [⟨(some 9), .move (.tmp (5 : Nat)), none⟩,
  ⟨(some 10), .move (.tmp (1 : Nat)), none⟩,
  ⟨(some 11), .binOp .mul 3 (.tmp (9 : Nat)) (.tmp (10 : Nat)) 3, none⟩,
  ⟨(some 12), .move (.tmp (0 : Nat)), none⟩,
  ⟨(some 13), .binOp .gtr 3 (.tmp (11 : Nat)) (.tmp (12 : Nat)) 3, none⟩]
def R2_Floor_r3 : List SO := [⟨(some 14), .move (.tmp (5 : Nat)), none⟩,
  ⟨(some 15), .binOp .sub 3 (.tmp (14 : Nat)) (.const (.int .i64 1)) 3, none⟩,
  ⟨(some 5), .assign (.tmp (15 : Nat)), none⟩]
def R2_Floor_r4 : List SO := [⟨(some 16), .move (.tmp (5 : Nat)), none⟩,
  ⟨(some 4), .assign (.tmp (16 : Nat)), none⟩]
def R2_Floor_c : SF := ⟨17, (.seq (.reg R2_Floor_r0)
  (.seq (.reg R2_Floor_r1)
  (.seq (.seq (.reg R2_Floor_r2)
  (.cond (.tmp (13 : Nat)) (.reg R2_Floor_r3) .skip))
  (.seq (.reg R2_Floor_r4)
  .ret)))), [.tmp 4]⟩
theorem R2_Floor_s : slimF Try.prog 18 = some R2_Floor_c := by kernel_rfl
abbrev R2_Floor_f : Nat := 18

end Go.Proofs.Ytbfflfinhigfeaa
namespace Go.Proofs.Ytbfflfinhigfeaa
open Go Go.Lite
set_option linter.unusedVariables false

/-- printworks/printworkskeep2.linearWorks -/
def K2_linearWorks_r0 : List SO := [⟨(some 0), .assign (.const (.bool false)), none⟩]
def K2_linearWorks_r1 : List SO := [⟨(some 8), .call ⟨(.value (.func (8 : Nat))), #[(.const (.string ⟨([48, 48] : List UInt8).toArray⟩))], #[9]⟩, none⟩,
  ⟨(some 7), .move (.tmp (8 : Nat)), none⟩,
  ⟨(some 9), .extract (.tmp (7 : Nat)) 0, none⟩,
  ⟨(some 10), .extract (.tmp (7 : Nat)) 1, none⟩,
  ⟨(some 1), .assign (.tmp (9 : Nat)), none⟩,
  ⟨(some 2), .assign (.tmp (10 : Nat)), none⟩]
def K2_linearWorks_r2 : List SO := [⟨(some 12), .move (.tmp (1 : Nat)), none⟩,
  ⟨(some 13), .call ⟨(.value (.func (10 : Nat))), #[(.tmp (12 : Nat))], #[22]⟩, none⟩,
  ⟨(some 11), .move (.tmp (13 : Nat)), none⟩,
  ⟨(some 14), .extract (.tmp (11 : Nat)) 0, none⟩,
  ⟨(some 15), .extract (.tmp (11 : Nat)) 1, none⟩,
  ⟨(some 3), .assign (.tmp (14 : Nat)), none⟩,
  ⟨(some 4), .assign (.tmp (15 : Nat)), none⟩]
def K2_linearWorks_r3 : List SO := [⟨(some 17), .call ⟨(.value (.func (11 : Nat))), #[(.const (.int .i64 1))], #[3]⟩, none⟩,
  ⟨(some 16), .move (.tmp (17 : Nat)), none⟩,
  ⟨(some 18), .extract (.tmp (16 : Nat)) 0, none⟩,
  ⟨(some 19), .extract (.tmp (16 : Nat)) 1, none⟩,
  ⟨(some 5), .assign (.tmp (18 : Nat)), none⟩,
  ⟨(some 6), .assign (.tmp (19 : Nat)), none⟩]
def K2_linearWorks_r4 : List SO := [⟨(some 20), .move (.tmp (2 : Nat)), none⟩,
  ⟨(some 21), .binOp .eql 25 (.tmp (20 : Nat)) (.const (.int .i64 0)) 25, none⟩,
  ⟨(some 22), .move (.tmp (21 : Nat)), none⟩,
  ⟨(some 23), .move (.tmp (1 : Nat)), (some (22, true))⟩,
  ⟨(some 24), .buildSlice 22 25 #[(0, (.const (.int .i64 4))), (1, (.const (.int .i64 1))), (2, (.const (.int .i64 1))), (3, (.const (.int .i64 2))), (4, (.const (.int .i64 1))), (5, (.const (.int .i64 2))), (6, (.const (.int .i64 1))), (7, (.const (.int .i64 1))), (8, (.const (.int .i64 1))), (9, (.const (.int .i64 1))), (10, (.const (.int .i64 4))), (11, (.const (.int .i64 3))), (12, (.const (.int .i64 1))), (13, (.const (.int .i64 1))), (14, (.const (.int .i64 1))), (15, (.const (.int .i64 1))), (16, (.const (.int .i64 4))), (17, (.const (.int .i64 3))), (18, (.const (.int .i64 4))), (19, (.const (.int .i64 1))), (20, (.const (.int .i64 1))), (21, (.const (.int .i64 3))), (22, (.const (.int .i64 1))), (23, (.const (.int .i64 1))), (24, (.const (.int .i64 2)))], (some (22, true))⟩,
  ⟨(some 25), .call ⟨(.value (.func (12 : Nat))), #[(.tmp (23 : Nat)), (.tmp (24 : Nat))], #[22, 22]⟩, (some (22, true))⟩,
  ⟨(some 26), .pick (.tmp (22 : Nat)) (.tmp (25 : Nat)) (.const (.bool false)), none⟩,
  ⟨(some 27), .move (.tmp (26 : Nat)), none⟩,
  ⟨(some 28), .move (.tmp (4 : Nat)), (some (27, true))⟩,
  ⟨(some 29), .binOp .eql 25 (.tmp (28 : Nat)) (.const (.int .i64 0)) 25, (some (27, true))⟩,
  ⟨(some 30), .pick (.tmp (27 : Nat)) (.tmp (29 : Nat)) (.const (.bool false)), none⟩,
  ⟨(some 31), .move (.tmp (30 : Nat)), none⟩,
  ⟨(some 32), .move (.tmp (3 : Nat)), (some (31, true))⟩,
  ⟨(some 33), .binOp .eql 9 (.tmp (32 : Nat)) (.const (.string ⟨([48, 48] : List UInt8).toArray⟩)) 9, (some (31, true))⟩,
  ⟨(some 34), .pick (.tmp (31 : Nat)) (.tmp (33 : Nat)) (.const (.bool false)), none⟩,
  ⟨(some 35), .move (.tmp (34 : Nat)), none⟩,
  ⟨(some 36), .move (.tmp (6 : Nat)), (some (35, true))⟩,
  ⟨(some 37), .binOp .eql 25 (.tmp (36 : Nat)) (.const (.int .i64 0)) 25, (some (35, true))⟩,
  ⟨(some 38), .pick (.tmp (35 : Nat)) (.tmp (37 : Nat)) (.const (.bool false)), none⟩,
  ⟨(some 39), .move (.tmp (38 : Nat)), none⟩,
  ⟨(some 40), .move (.tmp (5 : Nat)), (some (39, true))⟩,
  ⟨(some 41), .buildSlice 22 6 #[(0, (.const (.int .i64 1))), (1, (.const (.int .i64 1))), (2, (.const (.int .i64 1))), (3, (.const (.int .i64 2))), (4, (.const (.int .i64 2))), (5, (.const (.int .i64 4)))], (some (39, true))⟩,
  ⟨(some 42), .call ⟨(.value (.func (12 : Nat))), #[(.tmp (40 : Nat)), (.tmp (41 : Nat))], #[22, 22]⟩, (some (39, true))⟩,
  ⟨(some 43), .pick (.tmp (39 : Nat)) (.tmp (42 : Nat)) (.const (.bool false)), none⟩,
  ⟨(some 0), .assign (.tmp (43 : Nat)), none⟩]
def K2_linearWorks_c : SF := ⟨44, (.seq (.reg K2_linearWorks_r0)
  (.seq (.reg K2_linearWorks_r1)
  (.seq (.reg K2_linearWorks_r2)
  (.seq (.reg K2_linearWorks_r3)
  (.seq (.reg K2_linearWorks_r4)
  .ret))))), [.tmp 0]⟩
theorem K2_linearWorks_s : slimF Try.prog 6 = some K2_linearWorks_c := by kernel_rfl
abbrev K2_linearWorks_f : Nat := 6
/-- printworks/printworkskeep2.digitsOf -/
def K2_digitsOf_r0 : List SO := [⟨(some 2), .assign (.const (.string ⟨([] : List UInt8).toArray⟩)), none⟩]
def K2_digitsOf_r1 : List SO := [⟨(some 3), .assign (.const (.string ⟨([] : List UInt8).toArray⟩)), none⟩]
def K2_digitsOf_r2 : List SO := [⟨(some 6), .move (.tmp (0 : Nat)), none⟩,
  ⟨(some 7), .move (.tmp (0 : Nat)), none⟩,
  ⟨(some 8), .call ⟨(.builtin .len), #[(.tmp (7 : Nat))], #[22]⟩, none⟩,
  ⟨(some 9), .call ⟨(.builtin .min), #[(.tmp (8 : Nat)), (.const (.int .i64 20))], #[3, 3]⟩, none⟩,
  ⟨(some 10), .slice 22 (.tmp (6 : Nat)) none (some (.tmp (9 : Nat))) none, none⟩,
  ⟨(some 11), .call ⟨(.builtin .len), #[(.tmp (10 : Nat))], #[22]⟩, none⟩,
  ⟨(some 12), .move (.const (.int .i64 0)), none⟩]
def K2_digitsOf_r3 : List SO := [⟨(some 13), .binOp .lss 3 (.tmp (12 : Nat)) (.tmp (11 : Nat)) 3, none⟩]
def K2_digitsOf_r4 : List SO := [⟨(some 14), .indexAddr 22 (.tmp (10 : Nat)) (.tmp (12 : Nat)), none⟩,
  ⟨(some 15), .load 3 (.tmp (14 : Nat)), none⟩,
  ⟨(some 5), .assign (.tmp (15 : Nat)), none⟩]
def K2_digitsOf_r5 : List SO := [⟨(some 16), .move (.tmp (3 : Nat)), none⟩,
  ⟨(some 17), .move (.tmp (5 : Nat)), none⟩,
  ⟨(some 18), .call ⟨(.value (.func (9 : Nat))), #[(.tmp (17 : Nat)), (.const (.int .i64 10))], #[3, 3]⟩, none⟩,
  ⟨(some 19), .binOp .add 3 (.const (.int .i64 48)) (.tmp (18 : Nat)) 3, none⟩,
  ⟨(some 20), .convert 3 5 (.tmp (19 : Nat)), none⟩,
  ⟨(some 21), .buildSlice 35 1 #[(0, (.tmp (20 : Nat)))], none⟩,
  ⟨(some 22), .convert 35 9 (.tmp (21 : Nat)), none⟩,
  ⟨(some 23), .binOp .add 9 (.tmp (16 : Nat)) (.tmp (22 : Nat)) 9, none⟩,
  ⟨(some 3), .assign (.tmp (23 : Nat)), none⟩]
def K2_digitsOf_r6 : List SO := [⟨(some 24), .binOp .add 3 (.tmp (12 : Nat)) (.const (.int .i64 1)) 3, none⟩,
  ⟨(some 12), .move (.tmp (24 : Nat)), none⟩]
def K2_digitsOf_r7 : List SO := [⟨(some 25), .move (.tmp (3 : Nat)), none⟩,
  ⟨(some 26), .binOp .eql 9 (.tmp (25 : Nat)) (.const (.string ⟨([] : List UInt8).toArray⟩)) 9, none⟩]
def K2_digitsOf_r8 : List SO := [⟨(some 2), .assign (.const (.string ⟨([55] : List UInt8).toArray⟩)), none⟩]
def K2_digitsOf_r9 : List SO := [⟨(some 27), .move (.tmp (3 : Nat)), none⟩,
  ⟨(some 2), .assign (.tmp (27 : Nat)), none⟩]
def K2_digitsOf_c : SF := ⟨28, (.seq (.reg K2_digitsOf_r0)
  (.seq (.reg K2_digitsOf_r1)
  (.seq (.seq (.reg K2_digitsOf_r2)
  (.block 0 (.loop (.seq (.reg K2_digitsOf_r3)
  (.seq (.cond (.tmp (13 : Nat)) .skip (.exit 0))
  (.seq (.block 1 (.seq (.reg K2_digitsOf_r4)
  (.reg K2_digitsOf_r5)))
  (.reg K2_digitsOf_r6)))))))
  (.seq (.seq (.reg K2_digitsOf_r7)
  (.cond (.tmp (26 : Nat)) (.seq (.reg K2_digitsOf_r8)
  .ret) .skip))
  (.seq (.reg K2_digitsOf_r9)
  .ret))))), [.tmp 2]⟩
theorem K2_digitsOf_s : slimF Try.prog 7 = some K2_digitsOf_c := by kernel_rfl
abbrev K2_digitsOf_f : Nat := 7

end Go.Proofs.Ytbfflfinhigfeaa
namespace Go.Proofs.Ytbfflfinhigfeaa
open Go Go.Lite
set_option linter.unusedVariables false

/-- printworks/bitmap.Blank -/
def bitmap_Blank_r0 : List SO := [⟨(some 4), .alloc 37, none⟩]
def bitmap_Blank_r1 : List SO := [⟨(some 5), .move (.tmp (0 : Nat)), none⟩,
  ⟨(some 6), .move (.tmp (1 : Nat)), none⟩,
  ⟨(some 7), .move (.tmp (0 : Nat)), none⟩,
  ⟨(some 8), .call ⟨(.value (.func (28 : Nat))), #[(.tmp (7 : Nat))], #[3]⟩, none⟩,
  ⟨(some 9), .move (.tmp (1 : Nat)), none⟩,
  ⟨(some 10), .binOp .mul 3 (.tmp (8 : Nat)) (.tmp (9 : Nat)) 3, none⟩,
  ⟨(some 11), .makeSlice 35 (.tmp (10 : Nat)) (.tmp (10 : Nat)), none⟩,
  ⟨(some 12), .build 37 #[(0, (.tmp (5 : Nat))), (1, (.tmp (6 : Nat))), (2, (.tmp (11 : Nat)))], none⟩,
  ⟨none, .store 37 (.tmp (4 : Nat)) (.tmp (12 : Nat)), none⟩]
def bitmap_Blank_c : SF := ⟨13, (.seq (.reg bitmap_Blank_r0)
  (.seq (.reg bitmap_Blank_r1)
  .ret)), [.cell 4 37]⟩
theorem bitmap_Blank_s : slimF Try.prog 22 = some bitmap_Blank_c := by kernel_rfl
abbrev bitmap_Blank_f : Nat := 22
/-- printworks/bitmap.Mark -/
def bitmap_Mark_r0 : List SO := [⟨(some 6), .move (.tmp (0 : Nat)), none⟩,
  ⟨(some 7), .nilCheck (.tmp (6 : Nat)), none⟩,
  ⟨(some 8), .fieldAddr 37 (.tmp (7 : Nat)) 2, none⟩,
  ⟨(some 9), .load 35 (.tmp (8 : Nat)), none⟩,
  ⟨(some 10), .move (.tmp (2 : Nat)), none⟩,
  ⟨(some 11), .move (.tmp (0 : Nat)), none⟩,
  ⟨(some 12), .nilCheck (.tmp (11 : Nat)), none⟩,
  ⟨(some 13), .fieldAddr 37 (.tmp (12 : Nat)) 0, none⟩,
  ⟨(some 14), .load 3 (.tmp (13 : Nat)), none⟩,
  ⟨(some 15), .call ⟨(.value (.func (28 : Nat))), #[(.tmp (14 : Nat))], #[3]⟩, none⟩,
  ⟨(some 16), .binOp .mul 3 (.tmp (10 : Nat)) (.tmp (15 : Nat)) 3, none⟩,
  ⟨(some 17), .move (.tmp (1 : Nat)), none⟩,
  ⟨(some 18), .binOp .quo 3 (.tmp (17 : Nat)) (.const (.int .i64 8)) 3, none⟩,
  ⟨(some 19), .binOp .add 3 (.tmp (16 : Nat)) (.tmp (18 : Nat)) 3, none⟩,
  ⟨(some 20), .indexAddr 35 (.tmp (9 : Nat)) (.tmp (19 : Nat)), none⟩,
  ⟨(some 21), .load 5 (.tmp (20 : Nat)), none⟩,
  ⟨(some 22), .move (.tmp (1 : Nat)), none⟩,
  ⟨(some 23), .binOp .rem 3 (.tmp (22 : Nat)) (.const (.int .i64 8)) 3, none⟩,
  ⟨(some 24), .binOp .shr 5 (.const (.int .u8 128)) (.tmp (23 : Nat)) 3, none⟩,
  ⟨(some 25), .binOp .or 5 (.tmp (21 : Nat)) (.tmp (24 : Nat)) 5, none⟩,
  ⟨(some 26), .indexAddr 35 (.tmp (9 : Nat)) (.tmp (19 : Nat)), none⟩,
  ⟨none, .store 5 (.tmp (26 : Nat)) (.tmp (25 : Nat)), none⟩]
def bitmap_Mark_a0 : List (List Nat) := [[], [0], [1], [2], [], [], [5], [6], [7], [8], [4, 9], [], [11], [10, 12], [3, 13], [14], [], [16], [17], [15, 18], [3, 13, 0, 1, 2, 3, 4, 5, 6, 7, 8, 9, 10, 11, 12, 13, 14, 15, 16, 17, 18, 19], [20, 19, 9, 0, 1, 2, 3, 4, 5, 6, 7, 8, 9, 10, 11, 12, 13, 14, 15, 16, 17, 18, 19]]
def bitmap_Mark_c : SF := ⟨27, (.regd bitmap_Mark_r0 bitmap_Mark_a0), []⟩
theorem bitmap_Mark_s : slimF Try.prog 23 = some bitmap_Mark_c := by kernel_rfl
abbrev bitmap_Mark_f : Nat := 23
/-- printworks/bitmap.Check -/
def bitmap_Check_r0 : List SO := [⟨(some 1), .box 37 (.tmp (0 : Nat)), none⟩,
  ⟨(some 2), .assign (.const (.int .i64 0)), none⟩]
def bitmap_Check_r1 : List SO := [⟨(some 6), .fieldAddr 37 (.tmp (1 : Nat)) 0, none⟩,
  ⟨(some 7), .load 3 (.tmp (6 : Nat)), none⟩,
  ⟨(some 8), .binOp .lss 3 (.tmp (7 : Nat)) (.const (.int .i64 1)) 3, none⟩,
  ⟨(some 9), .move (.tmp (8 : Nat)), none⟩,
  ⟨(some 10), .fieldAddr 37 (.tmp (1 : Nat)) 0, (some (9, false))⟩,
  ⟨(some 11), .load 3 (.tmp (10 : Nat)), (some (9, false))⟩,
  ⟨(some 12), .binOp .gtr 3 (.tmp (11 : Nat)) (.const (.int .i64 1024)) 3, (some (9, false))⟩,
  ⟨(some 13), .pick (.tmp (9 : Nat)) (.const (.bool true)) (.tmp (12 : Nat)), none⟩,
  ⟨(some 14), .move (.tmp (13 : Nat)), none⟩,
  ⟨(some 15), .fieldAddr 37 (.tmp (1 : Nat)) 1, (some (14, false))⟩,
  ⟨(some 16), .load 3 (.tmp (15 : Nat)), (some (14, false))⟩,
  ⟨(some 17), .binOp .lss 3 (.tmp (16 : Nat)) (.const (.int .i64 1)) 3, (some (14, false))⟩,
  ⟨(some 18), .pick (.tmp (14 : Nat)) (.const (.bool true)) (.tmp (17 : Nat)), none⟩,
  ⟨(some 19), .move (.tmp (18 : Nat)), none⟩,
  ⟨(some 20), .fieldAddr 37 (.tmp (1 : Nat)) 1, (some (19, false))⟩,
  ⟨(some 21), .load 3 (.tmp (20 : Nat)), (some (19, false))⟩,
  ⟨(some 22), .binOp .gtr 3 (.tmp (21 : Nat)) (.const (.int .i64 1024)) 3, (some (19, false))⟩,
  ⟨(some 23), .pick (.tmp (19 : Nat)) (.const (.bool true)) (.tmp (22 : Nat)), none⟩]
def bitmap_Check_r2 : List SO := [⟨(some 2), .assign (.const (.int .i64 3)), none⟩]
def bitmap_Check_r3 : List SO := [⟨(some 24), .fieldAddr 37 (.tmp (1 : Nat)) 0, none⟩,
  ⟨(some 25), .load 3 (.tmp (24 : Nat)), none⟩,
  ⟨(some 26), .call ⟨(.value (.func (28 : Nat))), #[(.tmp (25 : Nat))], #[3]⟩, none⟩,
  ⟨(some 3), .assign (.tmp (26 : Nat)), none⟩]
def bitmap_Check_r4 : List SO := [⟨(some 27), .fieldAddr 37 (.tmp (1 : Nat)) 2, none⟩,
  ⟨(some 28), .load 35 (.tmp (27 : Nat)), none⟩,
  ⟨(some 29), .call ⟨(.builtin .len), #[(.tmp (28 : Nat))], #[35]⟩, none⟩,
  ⟨(some 30), .move (.tmp (3 : Nat)), none⟩,
  ⟨(some 31), .fieldAddr 37 (.tmp (1 : Nat)) 1, none⟩,
  ⟨(some 32), .load 3 (.tmp (31 : Nat)), none⟩,
  ⟨(some 33), .binOp .mul 3 (.tmp (30 : Nat)) (.tmp (32 : Nat)) 3, none⟩,
  ⟨(some 34), .binOp .neq 3 (.tmp (29 : Nat)) (.tmp (33 : Nat)) 3, none⟩]
def bitmap_Check_r5 : List SO := [⟨(some 2), .assign (.const (.int .i64 4)), none⟩]
def bitmap_Check_r6 : List SO := [⟨(some 35), .move (.tmp (3 : Nat)), none⟩,
  ⟨(some 36), .binOp .mul 3 (.const (.int .i64 8)) (.tmp (35 : Nat)) 3, none⟩,
  ⟨(some 37), .fieldAddr 37 (.tmp (1 : Nat)) 0, none⟩,
  ⟨(some 38), .load 3 (.tmp (37 : Nat)), none⟩,
  ⟨(some 39), .binOp .sub 3 (.tmp (36 : Nat)) (.tmp (38 : Nat)) 3, none⟩,
  ⟨(some 40), .binOp .shl 5 (.const (.int .u8 1)) (.tmp (39 : Nat)) 3, none⟩,
  ⟨(some 41), .binOp .sub 5 (.tmp (40 : Nat)) (.const (.int .u8 1)) 5, none⟩,
  ⟨(some 4), .assign (.tmp (41 : Nat)), none⟩]
def bitmap_Check_r7 : List SO := [⟨(some 42), .move (.tmp (4 : Nat)), none⟩,
  ⟨(some 43), .binOp .neq 5 (.tmp (42 : Nat)) (.const (.int .u8 0)) 5, none⟩]
def bitmap_Check_r8 : List SO := [⟨(some 44), .fieldAddr 37 (.tmp (1 : Nat)) 1, none⟩,
  ⟨(some 45), .load 3 (.tmp (44 : Nat)), none⟩,
  ⟨(some 46), .move (.const (.int .i64 0)), none⟩]
def bitmap_Check_r9 : List SO := [⟨(some 47), .binOp .lss 3 (.tmp (46 : Nat)) (.tmp (45 : Nat)) 3, none⟩]
def bitmap_Check_r10 : List SO := [⟨(some 48), .move (.tmp (46 : Nat)), none⟩,
  ⟨(some 5), .assign (.tmp (48 : Nat)), none⟩]
def bitmap_Check_r11 : List SO := [⟨(some 49), .fieldAddr 37 (.tmp (1 : Nat)) 2, none⟩,
  ⟨(some 50), .load 35 (.tmp (49 : Nat)), none⟩,
  ⟨(some 51), .move (.tmp (5 : Nat)), none⟩,
  ⟨(some 52), .move (.tmp (3 : Nat)), none⟩,
  ⟨(some 53), .binOp .mul 3 (.tmp (51 : Nat)) (.tmp (52 : Nat)) 3, none⟩,
  ⟨(some 54), .move (.tmp (3 : Nat)), none⟩,
  ⟨(some 55), .binOp .add 3 (.tmp (53 : Nat)) (.tmp (54 : Nat)) 3, none⟩,
  ⟨(some 56), .binOp .sub 3 (.tmp (55 : Nat)) (.const (.int .i64 1)) 3, none⟩,
  ⟨(some 57), .indexAddr 35 (.tmp (50 : Nat)) (.tmp (56 : Nat)), none⟩,
  ⟨(some 58), .load 5 (.tmp (57 : Nat)), none⟩,
  ⟨(some 59), .move (.tmp (4 : Nat)), none⟩,
  ⟨(some 60), .binOp .and 5 (.tmp (58 : Nat)) (.tmp (59 : Nat)) 5, none⟩,
  ⟨(some 61), .binOp .neq 5 (.tmp (60 : Nat)) (.const (.int .u8 0)) 5, none⟩]
def bitmap_Check_r12 : List SO := [⟨(some 2), .assign (.const (.int .i64 4)), none⟩]
def bitmap_Check_r13 : List SO := [⟨(some 62), .binOp .add 3 (.tmp (46 : Nat)) (.const (.int .i64 1)) 3, none⟩,
  ⟨(some 46), .move (.tmp (62 : Nat)), none⟩]
def bitmap_Check_r14 : List SO := [⟨(some 2), .assign (.const (.int .i64 0)), none⟩]
def bitmap_Check_c : SF := ⟨63, (.seq (.reg bitmap_Check_r0)
  (.seq (.seq (.reg bitmap_Check_r1)
  (.cond (.tmp (23 : Nat)) (.seq (.reg bitmap_Check_r2)
  .ret) .skip))
  (.seq (.reg bitmap_Check_r3)
  (.seq (.seq (.reg bitmap_Check_r4)
  (.cond (.tmp (34 : Nat)) (.seq (.reg bitmap_Check_r5)
  .ret) .skip))
  (.seq (.seq (.reg bitmap_Check_r6)
  (.seq (.reg bitmap_Check_r7)
  (.cond (.tmp (43 : Nat)) (.seq (.reg bitmap_Check_r8)
  (.block 0 (.loop (.seq (.reg bitmap_Check_r9)
  (.seq (.cond (.tmp (47 : Nat)) .skip (.exit 0))
  (.seq (.block 1 (.seq (.reg bitmap_Check_r10)
  (.seq (.reg bitmap_Check_r11)
  (.cond (.tmp (61 : Nat)) (.seq (.reg bitmap_Check_r12)
  .ret) .skip))))
  (.reg bitmap_Check_r13))))))) .skip)))
  (.seq (.reg bitmap_Check_r14)
  .ret)))))), [.tmp 2]⟩
theorem bitmap_Check_s : slimF Try.prog 24 = some bitmap_Check_c := by kernel_rfl
abbrev bitmap_Check_f : Nat := 24
/-- printworks/bitmap.stride -/
def bitmap_stride_r0 : List SO := [⟨(some 2), .assign (.const (.int .i64 0)), none⟩]
def bitmap_stride_r1 : List SO := [⟨(some 3), .move (.tmp (0 : Nat)), none⟩,
  ⟨(some 4), .binOp .add 3 (.tmp (3 : Nat)) (.const (.int .i64 7)) 3, none⟩,
  ⟨(some 5), .binOp .quo 3 (.tmp (4 : Nat)) (.const (.int .i64 8)) 3, none⟩,
  ⟨(some 2), .assign (.tmp (5 : Nat)), none⟩]
def bitmap_stride_c : SF := ⟨6, (.seq (.reg bitmap_stride_r0)
  (.seq (.reg bitmap_stride_r1)
  .ret)), [.tmp 2]⟩
theorem bitmap_stride_s : slimF Try.prog 28 = some bitmap_stride_c := by kernel_rfl
abbrev bitmap_stride_f : Nat := 28
/-- printworks/bitmap.Row -/
def bitmap_Row_r0 : List SO := [⟨(some 2), .box 50 (.tmp (0 : Nat)), none⟩,
  ⟨(some 3), .box 3 (.tmp (1 : Nat)), none⟩,
  ⟨(some 4), .assign (.const .nilFunc), none⟩]
def bitmap_Row_r1 : List SO := [⟨(some 5), .makeFunc (.func (30 : Nat)) #[] #[(.tmp (2 : Nat)), (.tmp (3 : Nat))], none⟩,
  ⟨(some 4), .assign (.tmp (5 : Nat)), none⟩]
def bitmap_Row_c : SF := ⟨6, (.seq (.reg bitmap_Row_r0)
  (.seq (.reg bitmap_Row_r1)
  .ret)), [.tmp 4]⟩
theorem bitmap_Row_s : slimF Try.prog 29 = some bitmap_Row_c := by kernel_rfl
abbrev bitmap_Row_f : Nat := 29
/-- printworks/bitmap.Row$1 -/
def bitmap_Row_1_r0 : List SO := [⟨(some 4), .assign (.const (.int .i64 0)), none⟩]
def bitmap_Row_1_r1 : List SO := [⟨(some 6), .move (.tmp (4 : Nat)), none⟩,
  ⟨(some 7), .load 50 (.tmp (1 : Nat)), none⟩,
  ⟨(some 8), .nilCheck (.tmp (7 : Nat)), none⟩,
  ⟨(some 9), .fieldAddr 37 (.tmp (8 : Nat)) 0, none⟩,
  ⟨(some 10), .load 3 (.tmp (9 : Nat)), none⟩,
  ⟨(some 11), .binOp .lss 3 (.tmp (6 : Nat)) (.tmp (10 : Nat)) 3, none⟩]
def bitmap_Row_1_r2 : List SO := [⟨(some 12), .load 50 (.tmp (1 : Nat)), none⟩,
  ⟨(some 13), .move (.tmp (4 : Nat)), none⟩,
  ⟨(some 14), .load 3 (.tmp (2 : Nat)), none⟩,
  ⟨(some 15), .call ⟨(.value (.func (31 : Nat))), #[(.tmp (12 : Nat)), (.tmp (13 : Nat)), (.tmp (14 : Nat))], #[50, 3, 3]⟩, none⟩,
  ⟨(some 16), .unOp .not 4 (.tmp (15 : Nat)), none⟩]
def bitmap_Row_1_r3 : List SO := [⟨(some 17), .move (.tmp (4 : Nat)), none⟩,
  ⟨(some 18), .binOp .add 3 (.tmp (17 : Nat)) (.const (.int .i64 1)) 3, none⟩,
  ⟨(some 4), .assign (.tmp (18 : Nat)), none⟩]
def bitmap_Row_1_r4 : List SO := [⟨(some 19), .move (.tmp (4 : Nat)), none⟩,
  ⟨(some 5), .assign (.tmp (19 : Nat)), none⟩]
def bitmap_Row_1_r5 : List SO := [⟨(some 20), .move (.tmp (4 : Nat)), none⟩,
  ⟨(some 21), .load 50 (.tmp (1 : Nat)), none⟩,
  ⟨(some 22), .nilCheck (.tmp (21 : Nat)), none⟩,
  ⟨(some 23), .fieldAddr 37 (.tmp (22 : Nat)) 0, none⟩,
  ⟨(some 24), .load 3 (.tmp (23 : Nat)), none⟩,
  ⟨(some 25), .binOp .lss 3 (.tmp (20 : Nat)) (.tmp (24 : Nat)) 3, none⟩,
  ⟨(some 26), .move (.tmp (25 : Nat)), none⟩,
  ⟨(some 27), .load 50 (.tmp (1 : Nat)), (some (26, true))⟩,
  ⟨(some 28), .move (.tmp (4 : Nat)), (some (26, true))⟩,
  ⟨(some 29), .load 3 (.tmp (2 : Nat)), (some (26, true))⟩,
  ⟨(some 30), .call ⟨(.value (.func (31 : Nat))), #[(.tmp (27 : Nat)), (.tmp (28 : Nat)), (.tmp (29 : Nat))], #[50, 3, 3]⟩, (some (26, true))⟩,
  ⟨(some 31), .pick (.tmp (26 : Nat)) (.tmp (30 : Nat)) (.const (.bool false)), none⟩]
def bitmap_Row_1_r6 : List SO := [⟨(some 32), .move (.tmp (4 : Nat)), none⟩,
  ⟨(some 33), .binOp .add 3 (.tmp (32 : Nat)) (.const (.int .i64 1)) 3, none⟩,
  ⟨(some 4), .assign (.tmp (33 : Nat)), none⟩]
def bitmap_Row_1_r7 : List SO := [⟨(some 34), .move (.tmp (0 : Nat)), none⟩,
  ⟨(some 35), .load 3 (.tmp (2 : Nat)), none⟩,
  ⟨(some 36), .move (.tmp (5 : Nat)), none⟩,
  ⟨(some 37), .move (.tmp (4 : Nat)), none⟩,
  ⟨(some 38), .build 60 #[(0, (.tmp (35 : Nat))), (1, (.tmp (36 : Nat))), (2, (.tmp (37 : Nat)))], none⟩,
  ⟨(some 39), .call ⟨(.value (.tmp (34 : Nat))), #[(.tmp (38 : Nat))], #[60]⟩, none⟩,
  ⟨(some 40), .unOp .not 4 (.tmp (39 : Nat)), none⟩]
def bitmap_Row_1_c : SF := ⟨41, (.seq (.reg bitmap_Row_1_r0)
  (.block 0 (.loop (.seq (.seq (.reg bitmap_Row_1_r1)
  (.cond (.tmp (11 : Nat)) .skip (.exit 0)))
  (.block 1 (.seq (.seq (.reg bitmap_Row_1_r2)
  (.cond (.tmp (16 : Nat)) (.seq (.reg bitmap_Row_1_r3)
  (.exit 1)) .skip))
  (.seq (.reg bitmap_Row_1_r4)
  (.seq (.block 2 (.loop (.seq (.seq (.reg bitmap_Row_1_r5)
  (.cond (.tmp (31 : Nat)) .skip (.exit 2)))
  (.block 3 (.reg bitmap_Row_1_r6)))))
  (.seq (.reg bitmap_Row_1_r7)
  (.cond (.tmp (40 : Nat)) .ret .skip)))))))))), []⟩
theorem bitmap_Row_1_s : slimF Try.prog 30 = some bitmap_Row_1_c := by kernel_rfl
abbrev bitmap_Row_1_f : Nat := 30
/-- printworks/bitmap.Is -/
def bitmap_Is_r0 : List SO := [⟨(some 6), .assign (.const (.bool false)), none⟩]
def bitmap_Is_r1 : List SO := [⟨(some 7), .move (.tmp (1 : Nat)), none⟩,
  ⟨(some 8), .binOp .geq 3 (.tmp (7 : Nat)) (.const (.int .i64 0)) 3, none⟩,
  ⟨(some 9), .move (.tmp (8 : Nat)), none⟩,
  ⟨(some 10), .move (.tmp (1 : Nat)), (some (9, true))⟩,
  ⟨(some 11), .move (.tmp (0 : Nat)), (some (9, true))⟩,
  ⟨(some 12), .nilCheck (.tmp (11 : Nat)), (some (9, true))⟩,
  ⟨(some 13), .fieldAddr 37 (.tmp (12 : Nat)) 0, (some (9, true))⟩,
  ⟨(some 14), .load 3 (.tmp (13 : Nat)), (some (9, true))⟩,
  ⟨(some 15), .binOp .lss 3 (.tmp (10 : Nat)) (.tmp (14 : Nat)) 3, (some (9, true))⟩,
  ⟨(some 16), .pick (.tmp (9 : Nat)) (.tmp (15 : Nat)) (.const (.bool false)), none⟩,
  ⟨(some 17), .move (.tmp (16 : Nat)), none⟩,
  ⟨(some 18), .move (.tmp (2 : Nat)), (some (17, true))⟩,
  ⟨(some 19), .binOp .geq 3 (.tmp (18 : Nat)) (.const (.int .i64 0)) 3, (some (17, true))⟩,
  ⟨(some 20), .pick (.tmp (17 : Nat)) (.tmp (19 : Nat)) (.const (.bool false)), none⟩,
  ⟨(some 21), .move (.tmp (20 : Nat)), none⟩,
  ⟨(some 22), .move (.tmp (2 : Nat)), (some (21, true))⟩,
  ⟨(some 23), .move (.tmp (0 : Nat)), (some (21, true))⟩,
  ⟨(some 24), .nilCheck (.tmp (23 : Nat)), (some (21, true))⟩,
  ⟨(some 25), .fieldAddr 37 (.tmp (24 : Nat)) 1, (some (21, true))⟩,
  ⟨(some 26), .load 3 (.tmp (25 : Nat)), (some (21, true))⟩,
  ⟨(some 27), .binOp .lss 3 (.tmp (22 : Nat)) (.tmp (26 : Nat)) 3, (some (21, true))⟩,
  ⟨(some 28), .pick (.tmp (21 : Nat)) (.tmp (27 : Nat)) (.const (.bool false)), none⟩,
  ⟨(some 29), .move (.tmp (28 : Nat)), none⟩,
  ⟨(some 30), .move (.tmp (0 : Nat)), (some (29, true))⟩,
  ⟨(some 31), .nilCheck (.tmp (30 : Nat)), (some (29, true))⟩,
  ⟨(some 32), .fieldAddr 37 (.tmp (31 : Nat)) 2, (some (29, true))⟩,
  ⟨(some 33), .load 35 (.tmp (32 : Nat)), (some (29, true))⟩,
  ⟨(some 34), .move (.tmp (2 : Nat)), (some (29, true))⟩,
  ⟨(some 35), .move (.tmp (0 : Nat)), (some (29, true))⟩,
  ⟨(some 36), .nilCheck (.tmp (35 : Nat)), (some (29, true))⟩,
  ⟨(some 37), .fieldAddr 37 (.tmp (36 : Nat)) 0, (some (29, true))⟩,
  ⟨(some 38), .load 3 (.tmp (37 : Nat)), (some (29, true))⟩,
  ⟨(some 39), .call ⟨(.value (.func (28 : Nat))), #[(.tmp (38 : Nat))], #[3]⟩, (some (29, true))⟩,
  ⟨(some 40), .binOp .mul 3 (.tmp (34 : Nat)) (.tmp (39 : Nat)) 3, (some (29, true))⟩,
  ⟨(some 41), .move (.tmp (1 : Nat)), (some (29, true))⟩,
  ⟨(some 42), .binOp .quo 3 (.tmp (41 : Nat)) (.const (.int .i64 8)) 3, (some (29, true))⟩,
  ⟨(some 43), .binOp .add 3 (.tmp (40 : Nat)) (.tmp (42 : Nat)) 3, (some (29, true))⟩,
  ⟨(some 44), .indexAddr 35 (.tmp (33 : Nat)) (.tmp (43 : Nat)), (some (29, true))⟩,
  ⟨(some 45), .load 5 (.tmp (44 : Nat)), (some (29, true))⟩,
  ⟨(some 46), .move (.tmp (1 : Nat)), (some (29, true))⟩,
  ⟨(some 47), .binOp .rem 3 (.tmp (46 : Nat)) (.const (.int .i64 8)) 3, (some (29, true))⟩,
  ⟨(some 48), .binOp .shr 5 (.const (.int .u8 128)) (.tmp (47 : Nat)) 3, (some (29, true))⟩,
  ⟨(some 49), .binOp .and 5 (.tmp (45 : Nat)) (.tmp (48 : Nat)) 5, (some (29, true))⟩,
  ⟨(some 50), .binOp .neq 5 (.tmp (49 : Nat)) (.const (.int .u8 0)) 5, (some (29, true))⟩,
  ⟨(some 51), .pick (.tmp (29 : Nat)) (.tmp (50 : Nat)) (.const (.bool false)), none⟩,
  ⟨(some 6), .assign (.tmp (51 : Nat)), none⟩]
def bitmap_Is_a1 : List (List Nat) := [[], [0], [1], [2], [2], [4, 2], [5, 2], [6, 2], [3, 7, 2], [2, 8], [9, 2], [10], [11, 10], [10, 12], [13, 10], [14], [14], [16, 14], [17, 14], [18, 14], [15, 19, 14], [14, 20], [21, 14], [22], [23, 22], [24, 22], [25, 22], [22], [22], [28, 22], [29, 22], [30, 22], [31, 22, 22], [27, 32, 22], [22], [34, 22], [33, 35, 22], [26, 36, 22], [37, 22], [22], [39, 22], [40, 22], [38, 41, 22], [42, 22], [22, 43], [44, 32, 0, 1, 2, 3, 4, 5, 6, 7, 8, 9, 10, 11, 12, 13, 14, 15, 16, 17, 18, 19, 20, 21, 22, 23, 24, 25, 26, 27, 28, 29, 30, 31, 32, 33, 34, 35, 36, 37, 38, 39, 40, 41, 42, 43, 44]]
def bitmap_Is_c : SF := ⟨52, (.seq (.reg bitmap_Is_r0)
  (.seq (.regd bitmap_Is_r1 bitmap_Is_a1)
  .ret)), [.tmp 6]⟩
theorem bitmap_Is_s : slimF Try.prog 31 = some bitmap_Is_c := by kernel_rfl
abbrev bitmap_Is_f : Nat := 31

end Go.Proofs.Ytbfflfinhigfeaa
namespace Go.Proofs.Ytbfflfinhigfeaa
open Go Go.Lite
set_option linter.unusedVariables false

/-- printworks/printworkskeep2.LinearScanned -/
def K2_LinearScanned_r0 : List SO := [⟨(some 8), .assign (.const (.bool false)), none⟩]
def K2_LinearScanned_r1 : List SO := [⟨(some 18), .call ⟨(.value (.func (6 : Nat))), #[], #[]⟩, none⟩,
  ⟨(some 19), .unOp .not 4 (.tmp (18 : Nat)), none⟩]
def K2_LinearScanned_r2 : List SO := [⟨(some 8), .assign (.const (.bool false)), none⟩]
def K2_LinearScanned_r3 : List SO := [⟨(some 20), .move (.tmp (0 : Nat)), none⟩,
  ⟨(some 21), .call ⟨(.value (.func (7 : Nat))), #[(.tmp (20 : Nat))], #[22]⟩, none⟩,
  ⟨(some 9), .assign (.tmp (21 : Nat)), none⟩]
def K2_LinearScanned_r4 : List SO := [⟨(some 22), .move (.tmp (1 : Nat)), none⟩,
  ⟨(some 23), .call ⟨(.value (.func (9 : Nat))), #[(.tmp (22 : Nat)), (.const (.int .i64 8))], #[3, 3]⟩, none⟩,
  ⟨(some 24), .binOp .add 3 (.const (.int .i64 1)) (.tmp (23 : Nat)) 3, none⟩,
  ⟨(some 25), .move (.tmp (2 : Nat)), none⟩,
  ⟨(some 26), .call ⟨(.value (.func (9 : Nat))), #[(.tmp (25 : Nat)), (.const (.int .i64 4))], #[3, 3]⟩, none⟩,
  ⟨(some 27), .binOp .add 3 (.const (.int .i64 1)) (.tmp (26 : Nat)) 3, none⟩,
  ⟨(some 1), .assign (.tmp (24 : Nat)), none⟩,
  ⟨(some 2), .assign (.tmp (27 : Nat)), none⟩]
def K2_LinearScanned_r5 : List SO := [⟨(some 29), .move (.tmp (9 : Nat)), none⟩,
  ⟨(some 30), .call ⟨(.value (.func (8 : Nat))), #[(.tmp (29 : Nat))], #[9]⟩, none⟩,
  ⟨(some 28), .move (.tmp (30 : Nat)), none⟩,
  ⟨(some 31), .extract (.tmp (28 : Nat)) 0, none⟩,
  ⟨(some 32), .extract (.tmp (28 : Nat)) 1, none⟩,
  ⟨(some 10), .assign (.tmp (31 : Nat)), none⟩,
  ⟨(some 11), .assign (.tmp (32 : Nat)), none⟩]
def K2_LinearScanned_r6 : List SO := [⟨(some 34), .move (.tmp (9 : Nat)), none⟩,
  ⟨(some 35), .move (.tmp (1 : Nat)), none⟩,
  ⟨(some 36), .move (.tmp (2 : Nat)), none⟩,
  ⟨(some 37), .call ⟨(.value (.func (13 : Nat))), #[(.tmp (34 : Nat)), (.tmp (35 : Nat)), (.tmp (36 : Nat))], #[9, 3, 3]⟩, none⟩,
  ⟨(some 33), .move (.tmp (37 : Nat)), none⟩,
  ⟨(some 38), .extract (.tmp (33 : Nat)) 0, none⟩,
  ⟨(some 39), .extract (.tmp (33 : Nat)) 1, none⟩,
  ⟨(some 12), .alloc 37, none⟩,
  ⟨none, .store 37 (.tmp (12 : Nat)) (.tmp (38 : Nat)), none⟩,
  ⟨(some 13), .assign (.tmp (39 : Nat)), none⟩]
def K2_LinearScanned_r7 : List SO := [⟨(some 14), .assign (.const (.int .i64 0)), none⟩]
def K2_LinearScanned_r8 : List SO := [⟨(some 40), .move (.tmp (10 : Nat)), none⟩,
  ⟨(some 41), .call ⟨(.builtin .len), #[(.tmp (40 : Nat))], #[22]⟩, none⟩,
  ⟨(some 42), .move (.const (.int .i64 0)), none⟩]
def K2_LinearScanned_r9 : List SO := [⟨(some 43), .binOp .lss 3 (.tmp (42 : Nat)) (.tmp (41 : Nat)) 3, none⟩]
def K2_LinearScanned_r10 : List SO := [⟨(some 44), .move (.tmp (42 : Nat)), none⟩,
  ⟨(some 15), .assign (.tmp (44 : Nat)), none⟩]
def K2_LinearScanned_r11 : List SO := [⟨(some 45), .move (.tmp (10 : Nat)), none⟩,
  ⟨(some 46), .move (.tmp (15 : Nat)), none⟩,
  ⟨(some 47), .indexAddr 22 (.tmp (45 : Nat)) (.tmp (46 : Nat)), none⟩,
  ⟨(some 48), .load 3 (.tmp (47 : Nat)), none⟩,
  ⟨(some 49), .move (.tmp (1 : Nat)), none⟩,
  ⟨(some 50), .binOp .mul 3 (.tmp (48 : Nat)) (.tmp (49 : Nat)) 3, none⟩,
  ⟨(some 51), .indexAddr 22 (.tmp (45 : Nat)) (.tmp (46 : Nat)), none⟩,
  ⟨none, .store 3 (.tmp (51 : Nat)) (.tmp (50 : Nat)), none⟩]
def K2_LinearScanned_r12 : List SO := [⟨(some 52), .move (.tmp (14 : Nat)), none⟩,
  ⟨(some 53), .move (.tmp (10 : Nat)), none⟩,
  ⟨(some 54), .move (.tmp (15 : Nat)), none⟩,
  ⟨(some 55), .indexAddr 22 (.tmp (53 : Nat)) (.tmp (54 : Nat)), none⟩,
  ⟨(some 56), .load 3 (.tmp (55 : Nat)), none⟩,
  ⟨(some 57), .binOp .add 3 (.tmp (52 : Nat)) (.tmp (56 : Nat)) 3, none⟩,
  ⟨(some 14), .assign (.tmp (57 : Nat)), none⟩]
def K2_LinearScanned_r13 : List SO := [⟨(some 58), .binOp .add 3 (.tmp (42 : Nat)) (.const (.int .i64 1)) 3, none⟩,
  ⟨(some 42), .move (.tmp (58 : Nat)), none⟩]
def K2_LinearScanned_r14 : List SO := [⟨(some 59), .move (.tmp (14 : Nat)), none⟩,
  ⟨(some 60), .binOp .gtr 3 (.tmp (59 : Nat)) (.const (.int .i64 1024)) 3, none⟩]
def K2_LinearScanned_r15 : List SO := [⟨(some 61), .move (.tmp (13 : Nat)), none⟩,
  ⟨(some 62), .binOp .eql 25 (.tmp (61 : Nat)) (.const (.int .i64 19)) 25, none⟩,
  ⟨(some 63), .move (.tmp (62 : Nat)), none⟩,
  ⟨(some 64), .load 37 (.tmp (12 : Nat)), (some (63, true))⟩,
  ⟨(some 65), .call ⟨(.value (.func (14 : Nat))), #[(.tmp (64 : Nat))], #[37]⟩, (some (63, true))⟩,
  ⟨(some 66), .pick (.tmp (63 : Nat)) (.tmp (65 : Nat)) (.const (.bool false)), none⟩,
  ⟨(some 8), .assign (.tmp (66 : Nat)), none⟩]
def K2_LinearScanned_r16 : List SO := [⟨(some 68), .load 37 (.tmp (12 : Nat)), none⟩,
  ⟨(some 69), .move (.tmp (3 : Nat)), none⟩,
  ⟨(some 70), .move (.tmp (2 : Nat)), none⟩,
  ⟨(some 71), .call ⟨(.value (.func (9 : Nat))), #[(.tmp (69 : Nat)), (.tmp (70 : Nat))], #[3, 3]⟩, none⟩,
  ⟨(some 72), .call ⟨(.value (.func (15 : Nat))), #[(.tmp (68 : Nat)), (.tmp (71 : Nat))], #[37, 3]⟩, none⟩,
  ⟨(some 67), .move (.tmp (72 : Nat)), none⟩,
  ⟨(some 73), .extract (.tmp (67 : Nat)) 0, none⟩,
  ⟨(some 74), .extract (.tmp (67 : Nat)) 1, none⟩,
  ⟨(some 16), .assign (.tmp (73 : Nat)), none⟩,
  ⟨(some 17), .assign (.tmp (74 : Nat)), none⟩]
def K2_LinearScanned_a16 : List (List Nat) := [[], [], [], [1, 2], [0, 3, 3], [4], [5], [5], [6, 4, 0, 1, 2, 3, 4, 5, 6], [7, 8, 0, 1, 2, 3, 4, 5, 6, 7, 8]]
def K2_LinearScanned_r17 : List SO := [⟨(some 75), .move (.tmp (11 : Nat)), none⟩,
  ⟨(some 76), .binOp .eql 25 (.tmp (75 : Nat)) (.const (.int .i64 0)) 25, none⟩,
  ⟨(some 77), .move (.tmp (76 : Nat)), none⟩,
  ⟨(some 78), .move (.tmp (13 : Nat)), (some (77, true))⟩,
  ⟨(some 79), .binOp .eql 25 (.tmp (78 : Nat)) (.const (.int .i64 0)) 25, (some (77, true))⟩,
  ⟨(some 80), .pick (.tmp (77 : Nat)) (.tmp (79 : Nat)) (.const (.bool false)), none⟩,
  ⟨(some 81), .move (.tmp (80 : Nat)), none⟩,
  ⟨(some 82), .move (.tmp (17 : Nat)), (some (81, true))⟩,
  ⟨(some 83), .binOp .eql 25 (.tmp (82 : Nat)) (.const (.int .i64 0)) 25, (some (81, true))⟩,
  ⟨(some 84), .pick (.tmp (81 : Nat)) (.tmp (83 : Nat)) (.const (.bool false)), none⟩,
  ⟨(some 85), .move (.tmp (84 : Nat)), none⟩,
  ⟨(some 86), .move (.tmp (10 : Nat)), (some (85, true))⟩,
  ⟨(some 87), .move (.tmp (16 : Nat)), (some (85, true))⟩,
  ⟨(some 88), .call ⟨(.value (.func (12 : Nat))), #[(.tmp (86 : Nat)), (.tmp (87 : Nat))], #[22, 22]⟩, (some (85, true))⟩,
  ⟨(some 89), .pick (.tmp (85 : Nat)) (.tmp (88 : Nat)) (.const (.bool false)), none⟩,
  ⟨(some 8), .assign (.tmp (89 : Nat)), none⟩]
def K2_LinearScanned_c : SF := ⟨90, (.seq (.reg K2_LinearScanned_r0)
  (.seq (.seq (.reg K2_LinearScanned_r1)
  (.cond (.tmp (19 : Nat)) (.seq (.reg K2_LinearScanned_r2)
  .ret) .skip))
  (.seq (.reg K2_LinearScanned_r3)
  (.seq (.reg K2_LinearScanned_r4)
  (.seq (.reg K2_LinearScanned_r5)
  (.seq (.reg K2_LinearScanned_r6)
  (.seq (.reg K2_LinearScanned_r7)
  (.seq (.seq (.reg K2_LinearScanned_r8)
  (.block 0 (.loop (.seq (.reg K2_LinearScanned_r9)
  (.seq (.cond (.tmp (43 : Nat)) .skip (.exit 0))
  (.seq (.block 1 (.seq (.reg K2_LinearScanned_r10)
  (.seq (.reg K2_LinearScanned_r11)
  (.reg K2_LinearScanned_r12))))
  (.reg K2_LinearScanned_r13)))))))
  (.seq (.seq (.reg K2_LinearScanned_r14)
  (.cond (.tmp (60 : Nat)) (.seq (.reg K2_LinearScanned_r15)
  .ret) .skip))
  (.seq (.regd K2_LinearScanned_r16 K2_LinearScanned_a16)
  (.seq (.reg K2_LinearScanned_r17)
  .ret))))))))))), [.tmp 8]⟩
theorem K2_LinearScanned_s : slimF Try.prog 5 = some K2_LinearScanned_c := by kernel_rfl
abbrev K2_LinearScanned_f : Nat := 5

end Go.Proofs.Ytbfflfinhigfeaa
