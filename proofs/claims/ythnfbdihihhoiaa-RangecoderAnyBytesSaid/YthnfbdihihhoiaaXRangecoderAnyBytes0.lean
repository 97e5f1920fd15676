/- Printed by program: the functions' code in few words; the kernel checks it against the translation. -/
import Derived.Test.YthnfbdihihhoiaaRows
import Derived.Test.YthnfbdihihhoiaaLiteTP
namespace Go.Proofs.Ythnfbdihihhoiaa
open Go Go.Lite
set_option linter.unusedVariables false

/-- Int -/
abbrev Ei : Nat := 0
/-- Int -/
abbrev Ey : Nat := 1
/-- Int × Int -/
abbrev E2w : Nat := 2
@[reducible] def A (e : Nat) : Type := match e with
  | 0 => Int
  | 1 => Int
  | 2 => Int × Int
  | _ => Unit
def eSz (e : Nat) : Nat := match e with
  | 0 => 1
  | 1 => 1
  | 2 => 2
  | _ => 1
def eD (e : Nat) : A e := match e with
  | 0 => (0 : Int)
  | 1 => (0 : Int)
  | 2 => ((0 : Int), (0 : Int))
  | _ + 3 => ()
def encL0 (x : Int) : List LV := [.int .i64 (x)]
def enc0 (x : Int) : List (TV A) := [.int .i64 (x)]
def dec0 (cs : List (TV A)) : Option (Int) := match cs with
  | [.int .i64 x0] => some x0
  | _ => none
def encL1 (x : Int) : List LV := [.int .u8 (x)]
def enc1 (x : Int) : List (TV A) := [.int .u8 (x)]
def dec1 (cs : List (TV A)) : Option (Int) := match cs with
  | [.int .u8 x0] => some x0
  | _ => none
def encL2 (x : Int × Int) : List LV := [.int .u32 (x.1), .int .u32 (x.2)]
def enc2 (x : Int × Int) : List (TV A) := [.int .u32 (x.1), .int .u32 (x.2)]
def dec2 (cs : List (TV A)) : Option (Int × Int) := match cs with
  | [.int .u32 x0, .int .u32 x1] => some (x0, x1)
  | _ => none
def eEncL (e : Nat) (a : A e) : List LV := match e, a with
  | 0, a => encL0 a
  | 1, a => encL1 a
  | 2, a => encL2 a
  | _ + 3, _ => [.nilp]
def eEnc (e : Nat) (a : A e) : List (TV A) := match e, a with
  | 0, a => enc0 a
  | 1, a => enc1 a
  | 2, a => enc2 a
  | _ + 3, _ => [.nilp]
def eDec (e : Nat) (cs : List (TV A)) : Option (A e) := match e with
  | 0 => dec0 cs
  | 1 => dec1 cs
  | 2 => dec2 cs
  | _ + 3 => none
def eEl (t : Nat) : Option Nat := match t with
  | 22 => some 0
  | 57 => some 1
  | 118 => some 2
  | 136 => some 1
  | _ => none
def fl (e : Nat) : Bool := match e with
  | 0 => true
  | 1 => true
  | 2 => true
  | _ => false
def eByt (e : Nat) : Option (List (A e) → List Int) := match e with
  | 1 => some fun xs => xs
  | _ => none
theorem flat1 : ∀ xs : List Int, xs.flatMap (fun x => [LV.int .u8 x]) = xs.map (LV.int .u8)
  | [] => rfl
  | x :: r => congrArg (LV.int .u8 x :: ·) (flat1 r)
def R : Reg A := ⟨eSz, eD, eEncL, eEnc, eDec, eEl, eByt⟩
theorem R_ok : R.Ok where
  pos e := by show 0 < eSz e; unfold eSz; split <;> decide
  len e a := match e, a with
    | 0, a => rfl
    | 1, a => rfl
    | 2, a => rfl
    | e + 3, a => rfl
  ok e a := match e, a with
    | 0, a => rfl
    | 1, a => rfl
    | 2, a => rfl
    | e + 3, a => rfl
  dec e cs a h := match e, a, h with
    | 0, a, h => by
      replace h : dec0 cs = some a := h
      unfold dec0 at h
      split at h
      · cases h; rfl
      · cases h
    | 1, a, h => by
      replace h : dec1 cs = some a := h
      unfold dec1 at h
      split at h
      · cases h; rfl
      · cases h
    | 2, a, h => by
      replace h : dec2 cs = some a := h
      unfold dec2 at h
      split at h
      · cases h; rfl
      · cases h
    | e + 3, a, h => by cases h
  free e a := match e, a with
    | 0, a => rfl
    | 1, a => rfl
    | 2, a => rfl
    | e + 3, a => rfl
  sol e a := match e, a with
    | 0, a => rfl
    | 1, a => rfl
    | 2, a => rfl
    | e + 3, a => rfl
  byt e f h xs := match e, f, h with
    | 0, f, h => by cases h
    | 1, f, h => by cases h; exact flat1 xs
    | 2, f, h => by cases h
    | e + 3, f, h => by cases h
theorem fl_ok : ∀ e, fl e = true → ∀ a, psfreeL (R.encL e a) = true := fun e h a => match e, h, a with
  | 0, h, a => rfl
  | 1, h, a => rfl
  | 2, h, a => rfl
  | e + 3, h, a => rfl

def tyL : List (Nat × TI) := [(0, ⟨.other, 1, false, [.dead]⟩),
  (3, ⟨.int .i64, 1, false, [.int .i64 0]⟩),
  (22, ⟨.slice 1 8 [.int .i64 0], 1, false, [.nils]⟩),
  (57, ⟨.slice 1 1 [.int .u8 0], 1, false, [.nils]⟩),
  (26, ⟨.int .i64, 1, false, [.int .i64 0]⟩),
  (61, ⟨.other, 1, false, [.nilp]⟩),
  (68, ⟨.int .u64, 1, false, [.int .u64 0]⟩),
  (70, ⟨.other, 1, false, [.nilp]⟩),
  (121, ⟨.struct [(0, 1, false), (1, 1, false), (2, 1, false)], 3, true, [.nils, .int .u32 0, .int .i64 0]⟩),
  (125, ⟨.struct [(0, 3, true), (3, 1, false), (4, 1, false), (5, 1, false)], 6, true, [.nils, .int .u32 0, .int .i64 0, .int .u32 0, .nils, .bool false]⟩),
  (4, ⟨.bool, 1, false, [.bool false]⟩),
  (119, ⟨.int .u32, 1, false, [.int .u32 0]⟩),
  (5, ⟨.int .u8, 1, false, [.int .u8 0]⟩),
  (9, ⟨.str, 1, false, [.str ⟨([] : List UInt8).toArray⟩]⟩),
  (131, ⟨.struct [(0, 3, true), (3, 1, false), (4, 1, false)], 5, true, [.nils, .int .u32 0, .int .i64 0, .int .u32 0, .nils]⟩),
  (118, ⟨.slice 2 8 [.int .u32 0, .int .u32 0], 1, false, [.nils]⟩),
  (173, ⟨.other, 1, false, [.nilp]⟩),
  (175, ⟨.struct [(0, 1, false), (1, 1, false)], 2, true, [.int .u32 0, .int .u32 0]⟩)]
theorem tyL_ok : okL (tiOf Try.prog) tyL := ⟨by kernel_rfl, by kernel_rfl, by kernel_rfl, by kernel_rfl, by kernel_rfl, by kernel_rfl, by kernel_rfl, by kernel_rfl, by kernel_rfl, by kernel_rfl, by kernel_rfl, by kernel_rfl, by kernel_rfl, by kernel_rfl, by kernel_rfl, by kernel_rfl, by kernel_rfl, by kernel_rfl, trivial⟩
def eqL : List (Nat × List Nat) := []
theorem eqL_ok : okL (eqOf Try.prog) eqL := trivial
def nlL : List (Nat × Nat) := [(26, 0), (61, 2), (70, 2), (3, 0), (5, 0), (9, 0), (119, 0), (57, 3)]
theorem nlL_ok : okN (nilOf Try.prog) nlL := ⟨by kernel_rfl, by kernel_rfl, by kernel_rfl, by kernel_rfl, by kernel_rfl, by kernel_rfl, by kernel_rfl, by kernel_rfl, trivial⟩
noncomputable def ty : TT := ⟨lookT tyL (tiOf Try.prog), lookT eqL (eqOf Try.prog), lookN nlL (nilOf Try.prog)⟩
theorem ty_ok : ty = ttOf Try.prog := by
  unfold ty ttOf
  rw [lookT_eq tyL_ok, lookT_eq eqL_ok, lookN_eq nlL_ok]
def Wi (x : Int) : Prop := rng .i64 x
def Wy (x : Int) : Prop := rng .u8 x
theorem rdi : R.d Ei = (0 : Int) := rfl
theorem rdy : R.d Ey = (0 : Int) := rfl
theorem env : Env A R Try.prog ty fl := ⟨R_ok, ty_ok, fl_ok, by kernel_rfl⟩

end Go.Proofs.Ythnfbdihihhoiaa
namespace Go.Proofs.Ythnfbdihihhoiaa
open Go Go.Lite
set_option linter.unusedVariables false

/-- printworks/printworksref2.Mod -/
def R2_Mod_r0 : List SO := [⟨(some 4), .assign (.const (.int .i64 0)), none⟩]
def R2_Mod_r1 : List SO := [⟨(some 5), .move (.tmp (0 : Nat)), none⟩,
  ⟨(some 6), .move (.tmp (1 : Nat)), none⟩,
  ⟨(some 7), .move (.tmp (0 : Nat)), none⟩,
  ⟨(some 8), .move (.tmp (1 : Nat)), none⟩,
  ⟨(some 9), .call ⟨(.value (.func (51 : Nat))), #[(.tmp (7 : Nat)), (.tmp (8 : Nat))], #[3, 3]⟩, none⟩,
  ⟨(some 10), .binOp .mul 3 (.tmp (6 : Nat)) (.tmp (9 : Nat)) 3, none⟩,
  ⟨(some 11), .binOp .sub 3 (.tmp (5 : Nat)) (.tmp (10 : Nat)) 3, none⟩,
  ⟨(some 4), .assign (.tmp (11 : Nat)), none⟩]
def R2_Mod_c : SF := ⟨12, (.seq (.reg R2_Mod_r0)
  (.seq (.reg R2_Mod_r1)
  .ret)), [.tmp 4]⟩
theorem R2_Mod_s : slimF Try.prog 17 = some R2_Mod_c := by kernel_rfl
abbrev R2_Mod_f : Nat := 17
/-- printworks/printworksref2.SameInts -/
def R2_SameInts_r0 : List SO := [⟨(some 4), .assign (.const (.bool false)), none⟩]
def R2_SameInts_r1 : List SO := [⟨(some 6), .move (.tmp (0 : Nat)), none⟩,
  ⟨(some 7), .call ⟨(.builtin .len), #[(.tmp (6 : Nat))], #[22]⟩, none⟩,
  ⟨(some 8), .move (.tmp (1 : Nat)), none⟩,
  ⟨(some 9), .call ⟨(.builtin .len), #[(.tmp (8 : Nat))], #[22]⟩, none⟩,
  ⟨(some 10), .binOp .neq 3 (.tmp (7 : Nat)) (.tmp (9 : Nat)) 3, none⟩]
def R2_SameInts_r2 : List SO := [⟨(some 4), .assign (.const (.bool false)), none⟩]
def R2_SameInts_r3 : List SO := [⟨(some 11), .move (.tmp (0 : Nat)), none⟩,
  ⟨(some 12), .call ⟨(.builtin .len), #[(.tmp (11 : Nat))], #[22]⟩, none⟩,
  ⟨(some 13), .move (.const (.int .i64 0)), none⟩]
def R2_SameInts_r4 : List SO := [⟨(some 14), .binOp .lss 3 (.tmp (13 : Nat)) (.tmp (12 : Nat)) 3, none⟩]
def R2_SameInts_r5 : List SO := [⟨(some 15), .move (.tmp (13 : Nat)), none⟩,
  ⟨(some 5), .assign (.tmp (15 : Nat)), none⟩]
def R2_SameInts_r6 : List SO := [⟨(some 16), .move (.tmp (0 : Nat)), none⟩,
  ⟨(some 17), .move (.tmp (5 : Nat)), none⟩,
  ⟨(some 18), .indexAddr 22 (.tmp (16 : Nat)) (.tmp (17 : Nat)), none⟩,
  ⟨(some 19), .load 3 (.tmp (18 : Nat)), none⟩,
  ⟨(some 20), .move (.tmp (1 : Nat)), none⟩,
  ⟨(some 21), .move (.tmp (5 : Nat)), none⟩,
  ⟨(some 22), .indexAddr 22 (.tmp (20 : Nat)) (.tmp (21 : Nat)), none⟩,
  ⟨(some 23), .load 3 (.tmp (22 : Nat)), none⟩,
  ⟨(some 24), .binOp .neq 3 (.tmp (19 : Nat)) (.tmp (23 : Nat)) 3, none⟩]
def R2_SameInts_a6 : List (List Nat) := [[], [], [0, 1], [2], [], [], [4, 5], [6], [3, 7]]
def R2_SameInts_r7 : List SO := [⟨(some 4), .assign (.const (.bool false)), none⟩]
def R2_SameInts_r8 : List SO := [⟨(some 25), .binOp .add 3 (.tmp (13 : Nat)) (.const (.int .i64 1)) 3, none⟩,
  ⟨(some 13), .move (.tmp (25 : Nat)), none⟩]
def R2_SameInts_r9 : List SO := [⟨(some 4), .assign (.const (.bool true)), none⟩]
def R2_SameInts_c : SF := ⟨26, (.seq (.reg R2_SameInts_r0)
  (.seq (.seq (.reg R2_SameInts_r1)
  (.cond (.tmp (10 : Nat)) (.seq (.reg R2_SameInts_r2)
  .ret) .skip))
  (.seq (.seq (.reg R2_SameInts_r3)
  (.block 0 (.loop (.seq (.reg R2_SameInts_r4)
  (.seq (.cond (.tmp (14 : Nat)) .skip (.exit 0))
  (.seq (.block 1 (.seq (.reg R2_SameInts_r5)
  (.seq (.regd R2_SameInts_r6 R2_SameInts_a6)
  (.cond (.tmp (24 : Nat)) (.seq (.reg R2_SameInts_r7)
  .ret) .skip))))
  (.reg R2_SameInts_r8)))))))
  (.seq (.reg R2_SameInts_r9)
  .ret)))), [.tmp 4]⟩
theorem R2_SameInts_s : slimF Try.prog 23 = some R2_SameInts_c := by kernel_rfl
abbrev R2_SameInts_f : Nat := 23
/-- printworks/printworksref2.SameBytes -/
def R2_SameBytes_r0 : List SO := [⟨(some 4), .assign (.const (.bool false)), none⟩]
def R2_SameBytes_r1 : List SO := [⟨(some 5), .move (.tmp (0 : Nat)), none⟩,
  ⟨(some 6), .convert 57 9 (.tmp (5 : Nat)), none⟩,
  ⟨(some 7), .move (.tmp (1 : Nat)), none⟩,
  ⟨(some 8), .convert 57 9 (.tmp (7 : Nat)), none⟩,
  ⟨(some 9), .binOp .eql 9 (.tmp (6 : Nat)) (.tmp (8 : Nat)) 9, none⟩,
  ⟨(some 4), .assign (.tmp (9 : Nat)), none⟩]
def R2_SameBytes_c : SF := ⟨10, (.seq (.reg R2_SameBytes_r0)
  (.seq (.reg R2_SameBytes_r1)
  .ret)), [.tmp 4]⟩
theorem R2_SameBytes_s : slimF Try.prog 36 = some R2_SameBytes_c := by kernel_rfl
abbrev R2_SameBytes_f : Nat := 36
/-- printworks/printworksref2.Floor -/
def R2_Floor_r0 : List SO := [⟨(some 4), .assign (.const (.int .i64 0)), none⟩]
def R2_Floor_r1 : List SO := [⟨(some 6), .move (.tmp (0 : Nat)), none⟩,
  ⟨(some 7), .move (.tmp (1 : Nat)), none⟩,
  ⟨(some 8), .binOp .quo 3 (.tmp (6 : Nat)) (.tmp (7 : Nat)) 3, none⟩,
  ⟨(some 5), .assign (.tmp (8 : Nat)), none⟩]
def R2_Floor_r2 : List SO := [⟨(some 9), .move (.tmp (5 : Nat)), none⟩,
  ⟨(some 10), .move (.tmp (1 : Nat)), none⟩,
  ⟨(some 11), .binOp .mul 3 (.tmp (9 : Nat)) (.tmp (10 : Nat)) 3, none⟩,
  ⟨(some 12), .move (.tmp (0 : Nat)), none⟩,
  ⟨(some 13), .binOp .gtr 3 (.tmp (11 : Nat)) (.tmp (12 : Nat)) 3, none⟩]
def R2_Floor_r3 : List SO := [⟨(some 14), .move (.tmp (5 : Nat)), none⟩,
  ⟨(some 15), .binOp .sub 3 (.tmp (14 : Nat)) (.const (.int .i64 1)) 3, none⟩,
  ⟨(some 5), .assign (.tmp (15 : Nat)), none⟩]
def R2_Floor_r4 : List SO := [⟨(some 16), .move (.tmp (5 : Nat)), none⟩,
  ⟨(some 4), .assign (.tmp (16 : Nat)), none⟩]
def R2_Floor_c : SF := ⟨17, (.seq (.reg R2_Floor_r0)
  (.seq (.reg R2_Floor_r1)
  (.seq (.seq (.reg R2_Floor_r2)
  (.cond (.tmp (13 : Nat)) (.reg R2_Floor_r3) .skip))
  (.seq (.reg R2_Floor_r4)
  .ret)))), [.tmp 4]⟩
theorem R2_Floor_s : slimF Try.prog 51 = some R2_Floor_c := by kernel_rfl
abbrev R2_Floor_f : Nat := 51

end Go.Proofs.Ythnfbdihihhoiaa
namespace Go.Proofs.Ythnfbdihihhoiaa
open Go Go.Lite
set_option linter.unusedVariables false

/-- printworks/rangecoder.Encode -/
def rangecoder_Encode_r0 : List SO := [⟨(some 6), .assign (.const (.slice none 0 0)), none⟩,
  ⟨(some 7), .assign (.const (.int .i64 0)), none⟩]
def rangecoder_Encode_r1 : List SO := [⟨(some 13), .move (.tmp (1 : Nat)), none⟩,
  ⟨(some 14), .call ⟨(.builtin .len), #[(.tmp (13 : Nat))], #[22]⟩, none⟩,
  ⟨(some 15), .binOp .gtr 3 (.tmp (14 : Nat)) (.const (.int .i64 1048576)) 3, none⟩]
def rangecoder_Encode_r2 : List SO := [⟨(some 6), .assign (.const (.slice none 0 0)), none⟩,
  ⟨(some 7), .assign (.const (.int .i64 2)), none⟩]
def rangecoder_Encode_r3 : List SO := [⟨(some 16), .move (.tmp (2 : Nat)), none⟩,
  ⟨(some 17), .call ⟨(.builtin .len), #[(.tmp (16 : Nat))], #[22]⟩, none⟩,
  ⟨(some 18), .move (.tmp (1 : Nat)), none⟩,
  ⟨(some 19), .call ⟨(.builtin .len), #[(.tmp (18 : Nat))], #[22]⟩, none⟩,
  ⟨(some 20), .binOp .neq 3 (.tmp (17 : Nat)) (.tmp (19 : Nat)) 3, none⟩]
def rangecoder_Encode_r4 : List SO := [⟨(some 6), .assign (.const (.slice none 0 0)), none⟩,
  ⟨(some 7), .assign (.const (.int .i64 4)), none⟩]
def rangecoder_Encode_r5 : List SO := [⟨(some 22), .move (.tmp (0 : Nat)), none⟩,
  ⟨(some 23), .call ⟨(.value (.func (33 : Nat))), #[(.tmp (22 : Nat))], #[3]⟩, none⟩,
  ⟨(some 21), .move (.tmp (23 : Nat)), none⟩,
  ⟨(some 24), .extract (.tmp (21 : Nat)) 0, none⟩,
  ⟨(some 25), .extract (.tmp (21 : Nat)) 1, none⟩,
  ⟨(some 8), .assign (.tmp (24 : Nat)), none⟩,
  ⟨(some 9), .assign (.tmp (25 : Nat)), none⟩]
def rangecoder_Encode_r6 : List SO := [⟨(some 26), .move (.tmp (9 : Nat)), none⟩,
  ⟨(some 27), .binOp .neq 26 (.tmp (26 : Nat)) (.const (.int .i64 0)) 26, none⟩]
def rangecoder_Encode_r7 : List SO := [⟨(some 28), .move (.tmp (9 : Nat)), none⟩,
  ⟨(some 6), .assign (.const (.slice none 0 0)), none⟩,
  ⟨(some 7), .assign (.tmp (28 : Nat)), none⟩]
def rangecoder_Encode_r8 : List SO := [⟨(some 29), .move (.tmp (2 : Nat)), none⟩,
  ⟨(some 30), .call ⟨(.builtin .len), #[(.tmp (29 : Nat))], #[22]⟩, none⟩,
  ⟨(some 31), .move (.const (.int .i64 0)), none⟩]
def rangecoder_Encode_r9 : List SO := [⟨(some 32), .binOp .lss 3 (.tmp (31 : Nat)) (.tmp (30 : Nat)) 3, none⟩]
def rangecoder_Encode_r10 : List SO := [⟨(some 33), .move (.tmp (31 : Nat)), none⟩,
  ⟨(some 34), .indexAddr 22 (.tmp (29 : Nat)) (.tmp (31 : Nat)), none⟩,
  ⟨(some 35), .load 3 (.tmp (34 : Nat)), none⟩,
  ⟨(some 10), .assign (.tmp (33 : Nat)), none⟩,
  ⟨(some 11), .assign (.tmp (35 : Nat)), none⟩]
def rangecoder_Encode_r11 : List SO := [⟨(some 36), .move (.tmp (8 : Nat)), none⟩,
  ⟨(some 37), .move (.tmp (1 : Nat)), none⟩,
  ⟨(some 38), .move (.tmp (10 : Nat)), none⟩,
  ⟨(some 39), .indexAddr 22 (.tmp (37 : Nat)) (.tmp (38 : Nat)), none⟩,
  ⟨(some 40), .load 3 (.tmp (39 : Nat)), none⟩,
  ⟨(some 41), .move (.tmp (11 : Nat)), none⟩,
  ⟨(some 42), .call ⟨(.value (.func (34 : Nat))), #[(.tmp (36 : Nat)), (.tmp (40 : Nat)), (.tmp (41 : Nat))], #[61, 3, 3]⟩, none⟩,
  ⟨(some 12), .assign (.tmp (42 : Nat)), none⟩]
def rangecoder_Encode_r12 : List SO := [⟨(some 43), .move (.tmp (12 : Nat)), none⟩,
  ⟨(some 44), .binOp .neq 26 (.tmp (43 : Nat)) (.const (.int .i64 0)) 26, none⟩]
def rangecoder_Encode_r13 : List SO := [⟨(some 45), .move (.tmp (12 : Nat)), none⟩,
  ⟨(some 6), .assign (.const (.slice none 0 0)), none⟩,
  ⟨(some 7), .assign (.tmp (45 : Nat)), none⟩]
def rangecoder_Encode_r14 : List SO := [⟨(some 46), .binOp .add 3 (.tmp (31 : Nat)) (.const (.int .i64 1)) 3, none⟩,
  ⟨(some 31), .move (.tmp (46 : Nat)), none⟩]
def rangecoder_Encode_r15 : List SO := [⟨(some 47), .move (.tmp (8 : Nat)), none⟩,
  ⟨(some 48), .call ⟨(.value (.func (35 : Nat))), #[(.tmp (47 : Nat))], #[61]⟩, none⟩,
  ⟨(some 49), .extract (.tmp (48 : Nat)) 0, none⟩,
  ⟨(some 50), .extract (.tmp (48 : Nat)) 1, none⟩,
  ⟨(some 6), .assign (.tmp (49 : Nat)), none⟩,
  ⟨(some 7), .assign (.tmp (50 : Nat)), none⟩]
def rangecoder_Encode_c : SF := ⟨51, (.seq (.reg rangecoder_Encode_r0)
  (.seq (.seq (.reg rangecoder_Encode_r1)
  (.cond (.tmp (15 : Nat)) (.seq (.reg rangecoder_Encode_r2)
  .ret) .skip))
  (.seq (.seq (.reg rangecoder_Encode_r3)
  (.cond (.tmp (20 : Nat)) (.seq (.reg rangecoder_Encode_r4)
  .ret) .skip))
  (.seq (.reg rangecoder_Encode_r5)
  (.seq (.seq (.reg rangecoder_Encode_r6)
  (.cond (.tmp (27 : Nat)) (.seq (.reg rangecoder_Encode_r7)
  .ret) .skip))
  (.seq (.seq (.reg rangecoder_Encode_r8)
  (.block 0 (.loop (.seq (.reg rangecoder_Encode_r9)
  (.seq (.cond (.tmp (32 : Nat)) .skip (.exit 0))
  (.seq (.block 1 (.seq (.reg rangecoder_Encode_r10)
  (.seq (.reg rangecoder_Encode_r11)
  (.seq (.reg rangecoder_Encode_r12)
  (.cond (.tmp (44 : Nat)) (.seq (.reg rangecoder_Encode_r13)
  .ret) .skip)))))
  (.reg rangecoder_Encode_r14)))))))
  (.seq (.reg rangecoder_Encode_r15)
  .ret))))))), [.tmp 6, .tmp 7]⟩
theorem rangecoder_Encode_s : slimF Try.prog 31 = some rangecoder_Encode_c := by kernel_rfl
abbrev rangecoder_Encode_f : Nat := 31
/-- printworks/rangecoder.Decode -/
def rangecoder_Decode_r0 : List SO := [⟨(some 6), .assign (.const (.slice none 0 0)), none⟩,
  ⟨(some 7), .assign (.const (.int .i64 0)), none⟩]
def rangecoder_Decode_r1 : List SO := [⟨(some 13), .move (.tmp (2 : Nat)), none⟩,
  ⟨(some 14), .call ⟨(.builtin .len), #[(.tmp (13 : Nat))], #[22]⟩, none⟩,
  ⟨(some 15), .binOp .gtr 3 (.tmp (14 : Nat)) (.const (.int .i64 1048576)) 3, none⟩]
def rangecoder_Decode_r2 : List SO := [⟨(some 6), .assign (.const (.slice none 0 0)), none⟩,
  ⟨(some 7), .assign (.const (.int .i64 2)), none⟩]
def rangecoder_Decode_r3 : List SO := [⟨(some 17), .move (.tmp (1 : Nat)), none⟩,
  ⟨(some 18), .move (.tmp (0 : Nat)), none⟩,
  ⟨(some 19), .call ⟨(.value (.func (37 : Nat))), #[(.tmp (17 : Nat)), (.tmp (18 : Nat))], #[57, 3]⟩, none⟩,
  ⟨(some 16), .move (.tmp (19 : Nat)), none⟩,
  ⟨(some 20), .extract (.tmp (16 : Nat)) 0, none⟩,
  ⟨(some 21), .extract (.tmp (16 : Nat)) 1, none⟩,
  ⟨(some 8), .assign (.tmp (20 : Nat)), none⟩,
  ⟨(some 9), .assign (.tmp (21 : Nat)), none⟩]
def rangecoder_Decode_r4 : List SO := [⟨(some 22), .move (.tmp (9 : Nat)), none⟩,
  ⟨(some 23), .binOp .neq 26 (.tmp (22 : Nat)) (.const (.int .i64 0)) 26, none⟩]
def rangecoder_Decode_r5 : List SO := [⟨(some 24), .move (.tmp (9 : Nat)), none⟩,
  ⟨(some 6), .assign (.const (.slice none 0 0)), none⟩,
  ⟨(some 7), .assign (.tmp (24 : Nat)), none⟩]
def rangecoder_Decode_r6 : List SO := [⟨(some 25), .move (.tmp (2 : Nat)), none⟩,
  ⟨(some 26), .call ⟨(.builtin .len), #[(.tmp (25 : Nat))], #[22]⟩, none⟩,
  ⟨(some 27), .makeSlice 22 (.tmp (26 : Nat)) (.tmp (26 : Nat)), none⟩,
  ⟨(some 10), .assign (.tmp (27 : Nat)), none⟩]
def rangecoder_Decode_r7 : List SO := [⟨(some 28), .move (.tmp (2 : Nat)), none⟩,
  ⟨(some 29), .call ⟨(.builtin .len), #[(.tmp (28 : Nat))], #[22]⟩, none⟩,
  ⟨(some 30), .move (.const (.int .i64 0)), none⟩]
def rangecoder_Decode_r8 : List SO := [⟨(some 31), .binOp .lss 3 (.tmp (30 : Nat)) (.tmp (29 : Nat)) 3, none⟩]
def rangecoder_Decode_r9 : List SO := [⟨(some 32), .move (.tmp (30 : Nat)), none⟩,
  ⟨(some 33), .indexAddr 22 (.tmp (28 : Nat)) (.tmp (30 : Nat)), none⟩,
  ⟨(some 34), .load 3 (.tmp (33 : Nat)), none⟩,
  ⟨(some 11), .assign (.tmp (32 : Nat)), none⟩,
  ⟨(some 12), .assign (.tmp (34 : Nat)), none⟩]
def rangecoder_Decode_r10 : List SO := [⟨(some 36), .move (.tmp (10 : Nat)), none⟩,
  ⟨(some 37), .move (.tmp (11 : Nat)), none⟩,
  ⟨(some 38), .move (.tmp (8 : Nat)), none⟩,
  ⟨(some 39), .move (.tmp (12 : Nat)), none⟩,
  ⟨(some 40), .call ⟨(.value (.func (38 : Nat))), #[(.tmp (38 : Nat)), (.tmp (39 : Nat))], #[70, 3]⟩, none⟩,
  ⟨(some 35), .move (.tmp (40 : Nat)), none⟩,
  ⟨(some 41), .extract (.tmp (35 : Nat)) 0, none⟩,
  ⟨(some 42), .extract (.tmp (35 : Nat)) 1, none⟩,
  ⟨(some 43), .indexAddr 22 (.tmp (36 : Nat)) (.tmp (37 : Nat)), none⟩,
  ⟨none, .store 3 (.tmp (43 : Nat)) (.tmp (41 : Nat)), none⟩,
  ⟨(some 9), .assign (.tmp (42 : Nat)), none⟩]
def rangecoder_Decode_r11 : List SO := [⟨(some 44), .move (.tmp (9 : Nat)), none⟩,
  ⟨(some 45), .binOp .neq 26 (.tmp (44 : Nat)) (.const (.int .i64 0)) 26, none⟩]
def rangecoder_Decode_r12 : List SO := [⟨(some 46), .move (.tmp (9 : Nat)), none⟩,
  ⟨(some 6), .assign (.const (.slice none 0 0)), none⟩,
  ⟨(some 7), .assign (.tmp (46 : Nat)), none⟩]
def rangecoder_Decode_r13 : List SO := [⟨(some 47), .binOp .add 3 (.tmp (30 : Nat)) (.const (.int .i64 1)) 3, none⟩,
  ⟨(some 30), .move (.tmp (47 : Nat)), none⟩]
def rangecoder_Decode_r14 : List SO := [⟨(some 48), .move (.tmp (10 : Nat)), none⟩,
  ⟨(some 6), .assign (.tmp (48 : Nat)), none⟩,
  ⟨(some 7), .assign (.const (.int .i64 0)), none⟩]
def rangecoder_Decode_c : SF := ⟨49, (.seq (.reg rangecoder_Decode_r0)
  (.seq (.seq (.reg rangecoder_Decode_r1)
  (.cond (.tmp (15 : Nat)) (.seq (.reg rangecoder_Decode_r2)
  .ret) .skip))
  (.seq (.reg rangecoder_Decode_r3)
  (.seq (.seq (.reg rangecoder_Decode_r4)
  (.cond (.tmp (23 : Nat)) (.seq (.reg rangecoder_Decode_r5)
  .ret) .skip))
  (.seq (.reg rangecoder_Decode_r6)
  (.seq (.seq (.reg rangecoder_Decode_r7)
  (.block 0 (.loop (.seq (.reg rangecoder_Decode_r8)
  (.seq (.cond (.tmp (31 : Nat)) .skip (.exit 0))
  (.seq (.block 1 (.seq (.reg rangecoder_Decode_r9)
  (.seq (.reg rangecoder_Decode_r10)
  (.seq (.reg rangecoder_Decode_r11)
  (.cond (.tmp (45 : Nat)) (.seq (.reg rangecoder_Decode_r12)
  .ret) .skip)))))
  (.reg rangecoder_Decode_r13)))))))
  (.seq (.reg rangecoder_Decode_r14)
  .ret))))))), [.tmp 6, .tmp 7]⟩
theorem rangecoder_Decode_s : slimF Try.prog 32 = some rangecoder_Decode_c := by kernel_rfl
abbrev rangecoder_Decode_f : Nat := 32
/-- printworks/rangecoder.NewEncoder -/
def rangecoder_NewEncoder_r0 : List SO := [⟨(some 2), .assign (.const (.pointer none)), none⟩,
  ⟨(some 3), .assign (.const (.int .i64 0)), none⟩]
def rangecoder_NewEncoder_r1 : List SO := [⟨(some 7), .move (.tmp (0 : Nat)), none⟩,
  ⟨(some 8), .call ⟨(.value (.func (69 : Nat))), #[(.tmp (7 : Nat))], #[3]⟩, none⟩,
  ⟨(some 6), .move (.tmp (8 : Nat)), none⟩,
  ⟨(some 9), .extract (.tmp (6 : Nat)) 0, none⟩,
  ⟨(some 10), .extract (.tmp (6 : Nat)) 1, none⟩,
  ⟨(some 4), .alloc 121, none⟩,
  ⟨none, .store 121 (.tmp (4 : Nat)) (.tmp (9 : Nat)), none⟩,
  ⟨(some 5), .assign (.tmp (10 : Nat)), none⟩]
def rangecoder_NewEncoder_r2 : List SO := [⟨(some 11), .move (.tmp (5 : Nat)), none⟩,
  ⟨(some 12), .binOp .neq 26 (.tmp (11 : Nat)) (.const (.int .i64 0)) 26, none⟩]
def rangecoder_NewEncoder_r3 : List SO := [⟨(some 13), .move (.tmp (5 : Nat)), none⟩,
  ⟨(some 2), .assign (.const (.pointer none)), none⟩,
  ⟨(some 3), .assign (.tmp (13 : Nat)), none⟩]
def rangecoder_NewEncoder_r4 : List SO := [⟨(some 14), .load 121 (.tmp (4 : Nat)), none⟩,
  ⟨(some 15), .build 125 #[(0, (.tmp (14 : Nat)))], none⟩,
  ⟨(some 16), .box 125 (.tmp (15 : Nat)), none⟩,
  ⟨(some 2), .assign (.tmp (16 : Nat)), none⟩,
  ⟨(some 3), .assign (.const (.int .i64 0)), none⟩]
def rangecoder_NewEncoder_c : SF := ⟨17, (.seq (.reg rangecoder_NewEncoder_r0)
  (.seq (.reg rangecoder_NewEncoder_r1)
  (.seq (.seq (.reg rangecoder_NewEncoder_r2)
  (.cond (.tmp (12 : Nat)) (.seq (.reg rangecoder_NewEncoder_r3)
  .ret) .skip))
  (.seq (.reg rangecoder_NewEncoder_r4)
  .ret)))), [.tmp 2, .tmp 3]⟩
theorem rangecoder_NewEncoder_s : slimF Try.prog 33 = some rangecoder_NewEncoder_c := by kernel_rfl
abbrev rangecoder_NewEncoder_f : Nat := 33
/-- (*printworks/rangecoder.Encoder).Put -/
def __rangecoder_Encoder__Put_r0 : List SO := [⟨(some 6), .assign (.const (.int .i64 0)), none⟩]
def __rangecoder_Encoder__Put_r1 : List SO := [⟨(some 9), .move (.tmp (0 : Nat)), none⟩,
  ⟨(some 10), .nilCheck (.tmp (9 : Nat)), none⟩,
  ⟨(some 11), .fieldAddr 125 (.tmp (10 : Nat)) 3, none⟩,
  ⟨(some 12), .load 4 (.tmp (11 : Nat)), none⟩]
def __rangecoder_Encoder__Put_r2 : List SO := [⟨(some 6), .assign (.const (.int .i64 9)), none⟩]
def __rangecoder_Encoder__Put_r3 : List SO := [⟨(some 13), .move (.tmp (2 : Nat)), none⟩,
  ⟨(some 14), .binOp .neq 3 (.tmp (13 : Nat)) (.const (.int .i64 0)) 3, none⟩,
  ⟨(some 15), .move (.tmp (14 : Nat)), none⟩,
  ⟨(some 16), .move (.tmp (2 : Nat)), (some (15, true))⟩,
  ⟨(some 17), .binOp .neq 3 (.tmp (16 : Nat)) (.const (.int .i64 1)) 3, (some (15, true))⟩,
  ⟨(some 18), .pick (.tmp (15 : Nat)) (.tmp (17 : Nat)) (.const (.bool false)), none⟩]
def __rangecoder_Encoder__Put_r4 : List SO := [⟨(some 6), .assign (.const (.int .i64 3)), none⟩]
def __rangecoder_Encoder__Put_r5 : List SO := [⟨(some 19), .move (.tmp (0 : Nat)), none⟩,
  ⟨(some 20), .nilCheck (.tmp (19 : Nat)), none⟩,
  ⟨(some 21), .fieldAddr 125 (.tmp (20 : Nat)) 0, none⟩,
  ⟨(some 22), .move (.tmp (1 : Nat)), none⟩,
  ⟨(some 23), .call ⟨(.value (.func (70 : Nat))), #[(.tmp (21 : Nat)), (.tmp (22 : Nat))], #[121, 3]⟩, none⟩,
  ⟨(some 7), .assign (.tmp (23 : Nat)), none⟩]
def __rangecoder_Encoder__Put_r6 : List SO := [⟨(some 24), .move (.tmp (7 : Nat)), none⟩,
  ⟨(some 25), .binOp .neq 26 (.tmp (24 : Nat)) (.const (.int .i64 0)) 26, none⟩]
def __rangecoder_Encoder__Put_r7 : List SO := [⟨(some 26), .move (.tmp (7 : Nat)), none⟩,
  ⟨(some 6), .assign (.tmp (26 : Nat)), none⟩]
def __rangecoder_Encoder__Put_r8 : List SO := [⟨(some 27), .move (.tmp (0 : Nat)), none⟩,
  ⟨(some 28), .nilCheck (.tmp (27 : Nat)), none⟩,
  ⟨(some 29), .fieldAddr 125 (.tmp (28 : Nat)) 0, none⟩,
  ⟨(some 30), .move (.tmp (1 : Nat)), none⟩,
  ⟨(some 31), .call ⟨(.value (.func (71 : Nat))), #[(.tmp (29 : Nat)), (.tmp (30 : Nat))], #[121, 3]⟩, none⟩,
  ⟨(some 8), .assign (.tmp (31 : Nat)), none⟩]
def __rangecoder_Encoder__Put_r9 : List SO := [⟨(some 32), .move (.tmp (2 : Nat)), none⟩,
  ⟨(some 33), .binOp .eql 3 (.tmp (32 : Nat)) (.const (.int .i64 0)) 3, none⟩]
def __rangecoder_Encoder__Put_r10 : List SO := [⟨(some 34), .move (.tmp (0 : Nat)), none⟩,
  ⟨(some 35), .move (.tmp (8 : Nat)), none⟩,
  ⟨(some 36), .nilCheck (.tmp (34 : Nat)), none⟩,
  ⟨(some 37), .fieldAddr 125 (.tmp (36 : Nat)) 0, none⟩,
  ⟨(some 38), .fieldAddr 121 (.tmp (37 : Nat)) 1, none⟩,
  ⟨none, .store 119 (.tmp (38 : Nat)) (.tmp (35 : Nat)), none⟩]
def __rangecoder_Encoder__Put_r11 : List SO := [⟨(some 39), .move (.tmp (0 : Nat)), none⟩,
  ⟨(some 40), .nilCheck (.tmp (39 : Nat)), none⟩,
  ⟨(some 41), .fieldAddr 125 (.tmp (40 : Nat)) 1, none⟩,
  ⟨(some 42), .load 119 (.tmp (41 : Nat)), none⟩,
  ⟨(some 43), .move (.tmp (8 : Nat)), none⟩,
  ⟨(some 44), .binOp .add 119 (.tmp (42 : Nat)) (.tmp (43 : Nat)) 119, none⟩,
  ⟨(some 45), .nilCheck (.tmp (39 : Nat)), none⟩,
  ⟨(some 46), .fieldAddr 125 (.tmp (45 : Nat)) 1, none⟩,
  ⟨none, .store 119 (.tmp (46 : Nat)) (.tmp (44 : Nat)), none⟩]
def __rangecoder_Encoder__Put_r12 : List SO := [⟨(some 47), .move (.tmp (0 : Nat)), none⟩,
  ⟨(some 48), .nilCheck (.tmp (47 : Nat)), none⟩,
  ⟨(some 49), .fieldAddr 125 (.tmp (48 : Nat)) 1, none⟩,
  ⟨(some 50), .load 119 (.tmp (49 : Nat)), none⟩,
  ⟨(some 51), .move (.tmp (8 : Nat)), none⟩,
  ⟨(some 52), .binOp .lss 119 (.tmp (50 : Nat)) (.tmp (51 : Nat)) 119, none⟩]
def __rangecoder_Encoder__Put_r13 : List SO := [⟨(some 53), .move (.tmp (0 : Nat)), none⟩,
  ⟨(some 54), .call ⟨(.value (.func (72 : Nat))), #[(.tmp (53 : Nat))], #[61]⟩, none⟩]
def __rangecoder_Encoder__Put_r14 : List SO := [⟨(some 55), .move (.tmp (0 : Nat)), none⟩,
  ⟨(some 56), .nilCheck (.tmp (55 : Nat)), none⟩,
  ⟨(some 57), .fieldAddr 125 (.tmp (56 : Nat)) 0, none⟩,
  ⟨(some 58), .fieldAddr 121 (.tmp (57 : Nat)) 1, none⟩,
  ⟨(some 59), .load 119 (.tmp (58 : Nat)), none⟩,
  ⟨(some 60), .move (.tmp (8 : Nat)), none⟩,
  ⟨(some 61), .binOp .sub 119 (.tmp (59 : Nat)) (.tmp (60 : Nat)) 119, none⟩,
  ⟨(some 62), .nilCheck (.tmp (55 : Nat)), none⟩,
  ⟨(some 63), .fieldAddr 125 (.tmp (62 : Nat)) 0, none⟩,
  ⟨(some 64), .fieldAddr 121 (.tmp (63 : Nat)) 1, none⟩,
  ⟨none, .store 119 (.tmp (64 : Nat)) (.tmp (61 : Nat)), none⟩]
def __rangecoder_Encoder__Put_r15 : List SO := [⟨(some 65), .move (.tmp (0 : Nat)), none⟩,
  ⟨(some 66), .nilCheck (.tmp (65 : Nat)), none⟩,
  ⟨(some 67), .fieldAddr 125 (.tmp (66 : Nat)) 0, none⟩,
  ⟨(some 68), .fieldAddr 121 (.tmp (67 : Nat)) 1, none⟩,
  ⟨(some 69), .load 119 (.tmp (68 : Nat)), none⟩,
  ⟨(some 70), .binOp .lss 119 (.tmp (69 : Nat)) (.const (.int .u32 16777216)) 119, none⟩]
def __rangecoder_Encoder__Put_r16 : List SO := [⟨(some 71), .move (.tmp (0 : Nat)), none⟩,
  ⟨(some 72), .move (.tmp (0 : Nat)), none⟩,
  ⟨(some 73), .nilCheck (.tmp (72 : Nat)), none⟩,
  ⟨(some 74), .fieldAddr 125 (.tmp (73 : Nat)) 2, none⟩,
  ⟨(some 75), .load 57 (.tmp (74 : Nat)), none⟩,
  ⟨(some 76), .move (.tmp (0 : Nat)), none⟩,
  ⟨(some 77), .nilCheck (.tmp (76 : Nat)), none⟩,
  ⟨(some 78), .fieldAddr 125 (.tmp (77 : Nat)) 1, none⟩,
  ⟨(some 79), .load 119 (.tmp (78 : Nat)), none⟩,
  ⟨(some 80), .binOp .shr 119 (.tmp (79 : Nat)) (.const (.int .u64 24)) 128, none⟩,
  ⟨(some 81), .convert 119 5 (.tmp (80 : Nat)), none⟩,
  ⟨(some 82), .buildSlice 57 1 #[(0, (.tmp (81 : Nat)))], none⟩,
  ⟨(some 83), .call ⟨(.builtin .append), #[(.tmp (75 : Nat)), (.tmp (82 : Nat))], #[57, 57]⟩, none⟩,
  ⟨(some 84), .nilCheck (.tmp (71 : Nat)), none⟩,
  ⟨(some 85), .fieldAddr 125 (.tmp (84 : Nat)) 2, none⟩,
  ⟨none, .store 57 (.tmp (85 : Nat)) (.tmp (83 : Nat)), none⟩]
def __rangecoder_Encoder__Put_a16 : List (List Nat) := [[], [], [1], [2], [3], [], [5], [6], [7], [8], [9], [10], [4, 11], [0, 0, 1, 2, 3, 4, 5, 6, 7, 8, 9, 10, 11, 12], [13, 0, 1, 2, 3, 4, 5, 6, 7, 8, 9, 10, 11, 12], [14, 12, 12, 0, 1, 2, 3, 4, 5, 6, 7, 8, 9, 10, 11, 12]]
def __rangecoder_Encoder__Put_r17 : List SO := [⟨(some 86), .move (.tmp (0 : Nat)), none⟩,
  ⟨(some 87), .nilCheck (.tmp (86 : Nat)), none⟩,
  ⟨(some 88), .fieldAddr 125 (.tmp (87 : Nat)) 1, none⟩,
  ⟨(some 89), .load 119 (.tmp (88 : Nat)), none⟩,
  ⟨(some 90), .binOp .shl 119 (.tmp (89 : Nat)) (.const (.int .u64 8)) 128, none⟩,
  ⟨(some 91), .nilCheck (.tmp (86 : Nat)), none⟩,
  ⟨(some 92), .fieldAddr 125 (.tmp (91 : Nat)) 1, none⟩,
  ⟨none, .store 119 (.tmp (92 : Nat)) (.tmp (90 : Nat)), none⟩]
def __rangecoder_Encoder__Put_r18 : List SO := [⟨(some 93), .move (.tmp (0 : Nat)), none⟩,
  ⟨(some 94), .nilCheck (.tmp (93 : Nat)), none⟩,
  ⟨(some 95), .fieldAddr 125 (.tmp (94 : Nat)) 0, none⟩,
  ⟨(some 96), .fieldAddr 121 (.tmp (95 : Nat)) 1, none⟩,
  ⟨(some 97), .load 119 (.tmp (96 : Nat)), none⟩,
  ⟨(some 98), .binOp .shl 119 (.tmp (97 : Nat)) (.const (.int .u64 8)) 128, none⟩,
  ⟨(some 99), .nilCheck (.tmp (93 : Nat)), none⟩,
  ⟨(some 100), .fieldAddr 125 (.tmp (99 : Nat)) 0, none⟩,
  ⟨(some 101), .fieldAddr 121 (.tmp (100 : Nat)) 1, none⟩,
  ⟨none, .store 119 (.tmp (101 : Nat)) (.tmp (98 : Nat)), none⟩]
def __rangecoder_Encoder__Put_r19 : List SO := [⟨(some 102), .move (.tmp (0 : Nat)), none⟩,
  ⟨(some 103), .nilCheck (.tmp (102 : Nat)), none⟩,
  ⟨(some 104), .fieldAddr 125 (.tmp (103 : Nat)) 0, none⟩,
  ⟨(some 105), .move (.tmp (1 : Nat)), none⟩,
  ⟨(some 106), .move (.tmp (2 : Nat)), none⟩,
  ⟨(some 107), .call ⟨(.value (.func (73 : Nat))), #[(.tmp (104 : Nat)), (.tmp (105 : Nat)), (.tmp (106 : Nat))], #[121, 3, 3]⟩, none⟩]
def __rangecoder_Encoder__Put_r20 : List SO := [⟨(some 6), .assign (.const (.int .i64 0)), none⟩]
def __rangecoder_Encoder__Put_c : SF := ⟨108, (.seq (.reg __rangecoder_Encoder__Put_r0)
  (.seq (.seq (.reg __rangecoder_Encoder__Put_r1)
  (.cond (.tmp (12 : Nat)) (.seq (.reg __rangecoder_Encoder__Put_r2)
  .ret) .skip))
  (.seq (.seq (.reg __rangecoder_Encoder__Put_r3)
  (.cond (.tmp (18 : Nat)) (.seq (.reg __rangecoder_Encoder__Put_r4)
  .ret) .skip))
  (.seq (.seq (.reg __rangecoder_Encoder__Put_r5)
  (.seq (.reg __rangecoder_Encoder__Put_r6)
  (.cond (.tmp (25 : Nat)) (.seq (.reg __rangecoder_Encoder__Put_r7)
  .ret) .skip)))
  (.seq (.reg __rangecoder_Encoder__Put_r8)
  (.seq (.seq (.reg __rangecoder_Encoder__Put_r9)
  (.cond (.tmp (33 : Nat)) (.reg __rangecoder_Encoder__Put_r10) (.seq (.seq (.reg __rangecoder_Encoder__Put_r11)
  (.seq (.reg __rangecoder_Encoder__Put_r12)
  (.cond (.tmp (52 : Nat)) (.reg __rangecoder_Encoder__Put_r13) .skip)))
  (.reg __rangecoder_Encoder__Put_r14))))
  (.seq (.block 0 (.loop (.seq (.seq (.reg __rangecoder_Encoder__Put_r15)
  (.cond (.tmp (70 : Nat)) .skip (.exit 0)))
  (.block 1 (.seq (.regd __rangecoder_Encoder__Put_r16 __rangecoder_Encoder__Put_a16)
  (.seq (.reg __rangecoder_Encoder__Put_r17)
  (.reg __rangecoder_Encoder__Put_r18)))))))
  (.seq (.reg __rangecoder_Encoder__Put_r19)
  (.seq (.reg __rangecoder_Encoder__Put_r20)
  .ret))))))))), [.tmp 6]⟩
theorem __rangecoder_Encoder__Put_s : slimF Try.prog 34 = some __rangecoder_Encoder__Put_c := by kernel_rfl
abbrev __rangecoder_Encoder__Put_f : Nat := 34
/-- (*printworks/rangecoder.Encoder).Close -/
def __rangecoder_Encoder__Close_r0 : List SO := [⟨(some 2), .assign (.const (.slice none 0 0)), none⟩,
  ⟨(some 3), .assign (.const (.int .i64 0)), none⟩]
def __rangecoder_Encoder__Close_r1 : List SO := [⟨(some 5), .move (.tmp (0 : Nat)), none⟩,
  ⟨(some 6), .nilCheck (.tmp (5 : Nat)), none⟩,
  ⟨(some 7), .fieldAddr 125 (.tmp (6 : Nat)) 3, none⟩,
  ⟨(some 8), .load 4 (.tmp (7 : Nat)), none⟩]
def __rangecoder_Encoder__Close_r2 : List SO := [⟨(some 2), .assign (.const (.slice none 0 0)), none⟩,
  ⟨(some 3), .assign (.const (.int .i64 9)), none⟩]
def __rangecoder_Encoder__Close_r3 : List SO := [⟨(some 9), .move (.tmp (0 : Nat)), none⟩,
  ⟨(some 10), .nilCheck (.tmp (9 : Nat)), none⟩,
  ⟨(some 11), .fieldAddr 125 (.tmp (10 : Nat)) 3, none⟩,
  ⟨none, .store 4 (.tmp (11 : Nat)) (.const (.bool true)), none⟩]
def __rangecoder_Encoder__Close_r4 : List SO := [⟨(some 12), .move (.tmp (0 : Nat)), none⟩,
  ⟨(some 13), .nilCheck (.tmp (12 : Nat)), none⟩,
  ⟨(some 14), .fieldAddr 125 (.tmp (13 : Nat)) 2, none⟩,
  ⟨(some 15), .load 57 (.tmp (14 : Nat)), none⟩,
  ⟨(some 16), .call ⟨(.builtin .append), #[(.const (.slice none 0 0)), (.tmp (15 : Nat))], #[57, 57]⟩, none⟩,
  ⟨(some 4), .assign (.tmp (16 : Nat)), none⟩]
def __rangecoder_Encoder__Close_r5 : List SO := [⟨(some 17), .move (.tmp (4 : Nat)), none⟩,
  ⟨(some 18), .move (.tmp (0 : Nat)), none⟩,
  ⟨(some 19), .nilCheck (.tmp (18 : Nat)), none⟩,
  ⟨(some 20), .fieldAddr 125 (.tmp (19 : Nat)) 1, none⟩,
  ⟨(some 21), .load 119 (.tmp (20 : Nat)), none⟩,
  ⟨(some 22), .binOp .shr 119 (.tmp (21 : Nat)) (.const (.int .u64 24)) 128, none⟩,
  ⟨(some 23), .convert 119 5 (.tmp (22 : Nat)), none⟩,
  ⟨(some 24), .move (.tmp (0 : Nat)), none⟩,
  ⟨(some 25), .nilCheck (.tmp (24 : Nat)), none⟩,
  ⟨(some 26), .fieldAddr 125 (.tmp (25 : Nat)) 1, none⟩,
  ⟨(some 27), .load 119 (.tmp (26 : Nat)), none⟩,
  ⟨(some 28), .binOp .shr 119 (.tmp (27 : Nat)) (.const (.int .u64 16)) 128, none⟩,
  ⟨(some 29), .convert 119 5 (.tmp (28 : Nat)), none⟩,
  ⟨(some 30), .move (.tmp (0 : Nat)), none⟩,
  ⟨(some 31), .nilCheck (.tmp (30 : Nat)), none⟩,
  ⟨(some 32), .fieldAddr 125 (.tmp (31 : Nat)) 1, none⟩,
  ⟨(some 33), .load 119 (.tmp (32 : Nat)), none⟩,
  ⟨(some 34), .binOp .shr 119 (.tmp (33 : Nat)) (.const (.int .u64 8)) 128, none⟩,
  ⟨(some 35), .convert 119 5 (.tmp (34 : Nat)), none⟩,
  ⟨(some 36), .move (.tmp (0 : Nat)), none⟩,
  ⟨(some 37), .nilCheck (.tmp (36 : Nat)), none⟩,
  ⟨(some 38), .fieldAddr 125 (.tmp (37 : Nat)) 1, none⟩,
  ⟨(some 39), .load 119 (.tmp (38 : Nat)), none⟩,
  ⟨(some 40), .convert 119 5 (.tmp (39 : Nat)), none⟩,
  ⟨(some 41), .buildSlice 57 4 #[(0, (.tmp (23 : Nat))), (1, (.tmp (29 : Nat))), (2, (.tmp (35 : Nat))), (3, (.tmp (40 : Nat)))], none⟩,
  ⟨(some 42), .call ⟨(.builtin .append), #[(.tmp (17 : Nat)), (.tmp (41 : Nat))], #[57, 57]⟩, none⟩,
  ⟨(some 4), .assign (.tmp (42 : Nat)), none⟩]
def __rangecoder_Encoder__Close_a5 : List (List Nat) := [[], [], [1], [2], [3], [4], [5], [], [7], [8], [9], [10], [11], [], [13], [14], [15], [16], [17], [], [19], [20], [21], [22], [6, 12, 18, 23], [0, 24], [25, 25, 0, 1, 2, 3, 4, 5, 6, 7, 8, 9, 10, 11, 12, 13, 14, 15, 16, 17, 18, 19, 20, 21, 22, 23, 24, 25]]
def __rangecoder_Encoder__Close_r6 : List SO := [⟨(some 43), .move (.tmp (4 : Nat)), none⟩,
  ⟨(some 44), .call ⟨(.builtin .len), #[(.tmp (43 : Nat))], #[57]⟩, none⟩,
  ⟨(some 45), .binOp .gtr 3 (.tmp (44 : Nat)) (.const (.int .i64 0)) 3, none⟩,
  ⟨(some 46), .move (.tmp (45 : Nat)), none⟩,
  ⟨(some 47), .move (.tmp (4 : Nat)), (some (46, true))⟩,
  ⟨(some 48), .move (.tmp (4 : Nat)), (some (46, true))⟩,
  ⟨(some 49), .call ⟨(.builtin .len), #[(.tmp (48 : Nat))], #[57]⟩, (some (46, true))⟩,
  ⟨(some 50), .binOp .sub 3 (.tmp (49 : Nat)) (.const (.int .i64 1)) 3, (some (46, true))⟩,
  ⟨(some 51), .indexAddr 57 (.tmp (47 : Nat)) (.tmp (50 : Nat)), (some (46, true))⟩,
  ⟨(some 52), .load 5 (.tmp (51 : Nat)), (some (46, true))⟩,
  ⟨(some 53), .binOp .eql 5 (.tmp (52 : Nat)) (.const (.int .u8 0)) 5, (some (46, true))⟩,
  ⟨(some 54), .pick (.tmp (46 : Nat)) (.tmp (53 : Nat)) (.const (.bool false)), none⟩]
def __rangecoder_Encoder__Close_r7 : List SO := [⟨(some 55), .move (.tmp (4 : Nat)), none⟩,
  ⟨(some 56), .move (.tmp (4 : Nat)), none⟩,
  ⟨(some 57), .call ⟨(.builtin .len), #[(.tmp (56 : Nat))], #[57]⟩, none⟩,
  ⟨(some 58), .binOp .sub 3 (.tmp (57 : Nat)) (.const (.int .i64 1)) 3, none⟩,
  ⟨(some 59), .slice 57 (.tmp (55 : Nat)) none (some (.tmp (58 : Nat))) none, none⟩,
  ⟨(some 4), .assign (.tmp (59 : Nat)), none⟩]
def __rangecoder_Encoder__Close_r8 : List SO := [⟨(some 60), .move (.tmp (4 : Nat)), none⟩,
  ⟨(some 61), .call ⟨(.builtin .append), #[(.const (.slice none 0 0)), (.tmp (60 : Nat))], #[57, 57]⟩, none⟩,
  ⟨(some 2), .assign (.tmp (61 : Nat)), none⟩,
  ⟨(some 3), .assign (.const (.int .i64 0)), none⟩]
def __rangecoder_Encoder__Close_c : SF := ⟨62, (.seq (.reg __rangecoder_Encoder__Close_r0)
  (.seq (.seq (.reg __rangecoder_Encoder__Close_r1)
  (.cond (.tmp (8 : Nat)) (.seq (.reg __rangecoder_Encoder__Close_r2)
  .ret) .skip))
  (.seq (.reg __rangecoder_Encoder__Close_r3)
  (.seq (.reg __rangecoder_Encoder__Close_r4)
  (.seq (.regd __rangecoder_Encoder__Close_r5 __rangecoder_Encoder__Close_a5)
  (.seq (.block 0 (.loop (.seq (.seq (.reg __rangecoder_Encoder__Close_r6)
  (.cond (.tmp (54 : Nat)) .skip (.exit 0)))
  (.block 1 (.reg __rangecoder_Encoder__Close_r7)))))
  (.seq (.reg __rangecoder_Encoder__Close_r8)
  .ret))))))), [.tmp 2, .tmp 3]⟩
theorem __rangecoder_Encoder__Close_s : slimF Try.prog 35 = some __rangecoder_Encoder__Close_c := by kernel_rfl
abbrev __rangecoder_Encoder__Close_f : Nat := 35
/-- printworks/rangecoder.NewDecoder -/
def rangecoder_NewDecoder_r0 : List SO := [⟨(some 4), .assign (.const (.pointer none)), none⟩,
  ⟨(some 5), .assign (.const (.int .i64 0)), none⟩]
def rangecoder_NewDecoder_r1 : List SO := [⟨(some 9), .move (.tmp (0 : Nat)), none⟩,
  ⟨(some 10), .call ⟨(.builtin .len), #[(.tmp (9 : Nat))], #[57]⟩, none⟩,
  ⟨(some 11), .binOp .gtr 3 (.tmp (10 : Nat)) (.const (.int .i64 2097152)) 3, none⟩]
def rangecoder_NewDecoder_r2 : List SO := [⟨(some 4), .assign (.const (.pointer none)), none⟩,
  ⟨(some 5), .assign (.const (.int .i64 2)), none⟩]
def rangecoder_NewDecoder_r3 : List SO := [⟨(some 13), .move (.tmp (1 : Nat)), none⟩,
  ⟨(some 14), .call ⟨(.value (.func (69 : Nat))), #[(.tmp (13 : Nat))], #[3]⟩, none⟩,
  ⟨(some 12), .move (.tmp (14 : Nat)), none⟩,
  ⟨(some 15), .extract (.tmp (12 : Nat)) 0, none⟩,
  ⟨(some 16), .extract (.tmp (12 : Nat)) 1, none⟩,
  ⟨(some 6), .alloc 121, none⟩,
  ⟨none, .store 121 (.tmp (6 : Nat)) (.tmp (15 : Nat)), none⟩,
  ⟨(some 7), .assign (.tmp (16 : Nat)), none⟩]
def rangecoder_NewDecoder_r4 : List SO := [⟨(some 17), .move (.tmp (7 : Nat)), none⟩,
  ⟨(some 18), .binOp .neq 26 (.tmp (17 : Nat)) (.const (.int .i64 0)) 26, none⟩]
def rangecoder_NewDecoder_r5 : List SO := [⟨(some 19), .move (.tmp (7 : Nat)), none⟩,
  ⟨(some 4), .assign (.const (.pointer none)), none⟩,
  ⟨(some 5), .assign (.tmp (19 : Nat)), none⟩]
def rangecoder_NewDecoder_r6 : List SO := [⟨(some 20), .load 121 (.tmp (6 : Nat)), none⟩,
  ⟨(some 21), .move (.tmp (0 : Nat)), none⟩,
  ⟨(some 22), .call ⟨(.builtin .append), #[(.const (.slice none 0 0)), (.tmp (21 : Nat))], #[57, 57]⟩, none⟩,
  ⟨(some 23), .build 131 #[(0, (.tmp (20 : Nat))), (2, (.tmp (22 : Nat)))], none⟩,
  ⟨(some 24), .box 131 (.tmp (23 : Nat)), none⟩,
  ⟨(some 8), .assign (.tmp (24 : Nat)), none⟩]
def rangecoder_NewDecoder_a6 : List (List Nat) := [[], [], [1], [0, 2], [3], [4, 2, 0, 1, 2, 3, 4]]
def rangecoder_NewDecoder_r7 : List SO := [⟨(some 25), .move (.const (.int .i64 0)), none⟩]
def rangecoder_NewDecoder_r8 : List SO := [⟨(some 26), .binOp .lss 3 (.tmp (25 : Nat)) (.const (.int .i64 4)) 3, none⟩]
def rangecoder_NewDecoder_r9 : List SO := [⟨(some 27), .move (.tmp (8 : Nat)), none⟩,
  ⟨(some 28), .move (.tmp (8 : Nat)), none⟩,
  ⟨(some 29), .nilCheck (.tmp (28 : Nat)), none⟩,
  ⟨(some 30), .fieldAddr 131 (.tmp (29 : Nat)) 1, none⟩,
  ⟨(some 31), .load 119 (.tmp (30 : Nat)), none⟩,
  ⟨(some 32), .binOp .shl 119 (.tmp (31 : Nat)) (.const (.int .u64 8)) 128, none⟩,
  ⟨(some 33), .move (.tmp (8 : Nat)), none⟩,
  ⟨(some 34), .call ⟨(.value (.func (74 : Nat))), #[(.tmp (33 : Nat))], #[70]⟩, none⟩,
  ⟨(some 35), .binOp .or 119 (.tmp (32 : Nat)) (.tmp (34 : Nat)) 119, none⟩,
  ⟨(some 36), .nilCheck (.tmp (27 : Nat)), none⟩,
  ⟨(some 37), .fieldAddr 131 (.tmp (36 : Nat)) 1, none⟩,
  ⟨none, .store 119 (.tmp (37 : Nat)) (.tmp (35 : Nat)), none⟩]
def rangecoder_NewDecoder_a9 : List (List Nat) := [[], [], [1], [2], [3], [4], [], [6], [5, 7], [0, 0, 1, 2, 3, 4, 5, 6, 7, 8], [9, 0, 1, 2, 3, 4, 5, 6, 7, 8], [10, 8, 7, 0, 1, 2, 3, 4, 5, 6, 7, 8]]
def rangecoder_NewDecoder_r10 : List SO := [⟨(some 38), .binOp .add 3 (.tmp (25 : Nat)) (.const (.int .i64 1)) 3, none⟩,
  ⟨(some 25), .move (.tmp (38 : Nat)), none⟩]
def rangecoder_NewDecoder_r11 : List SO := [⟨(some 39), .move (.tmp (8 : Nat)), none⟩,
  ⟨(some 4), .assign (.tmp (39 : Nat)), none⟩,
  ⟨(some 5), .assign (.const (.int .i64 0)), none⟩]
def rangecoder_NewDecoder_c : SF := ⟨40, (.seq (.reg rangecoder_NewDecoder_r0)
  (.seq (.seq (.reg rangecoder_NewDecoder_r1)
  (.cond (.tmp (11 : Nat)) (.seq (.reg rangecoder_NewDecoder_r2)
  .ret) .skip))
  (.seq (.reg rangecoder_NewDecoder_r3)
  (.seq (.seq (.reg rangecoder_NewDecoder_r4)
  (.cond (.tmp (18 : Nat)) (.seq (.reg rangecoder_NewDecoder_r5)
  .ret) .skip))
  (.seq (.regd rangecoder_NewDecoder_r6 rangecoder_NewDecoder_a6)
  (.seq (.seq (.reg rangecoder_NewDecoder_r7)
  (.block 0 (.loop (.seq (.reg rangecoder_NewDecoder_r8)
  (.seq (.cond (.tmp (26 : Nat)) .skip (.exit 0))
  (.seq (.block 1 (.regd rangecoder_NewDecoder_r9 rangecoder_NewDecoder_a9))
  (.reg rangecoder_NewDecoder_r10)))))))
  (.seq (.reg rangecoder_NewDecoder_r11)
  .ret))))))), [.tmp 4, .tmp 5]⟩
theorem rangecoder_NewDecoder_s : slimF Try.prog 37 = some rangecoder_NewDecoder_c := by kernel_rfl
abbrev rangecoder_NewDecoder_f : Nat := 37
/-- (*printworks/rangecoder.Decoder).Get -/
def __rangecoder_Decoder__Get_r0 : List SO := [⟨(some 4), .assign (.const (.int .i64 0)), none⟩,
  ⟨(some 5), .assign (.const (.int .i64 0)), none⟩]
def __rangecoder_Decoder__Get_r1 : List SO := [⟨(some 9), .move (.tmp (0 : Nat)), none⟩,
  ⟨(some 10), .nilCheck (.tmp (9 : Nat)), none⟩,
  ⟨(some 11), .fieldAddr 131 (.tmp (10 : Nat)) 0, none⟩,
  ⟨(some 12), .move (.tmp (1 : Nat)), none⟩,
  ⟨(some 13), .call ⟨(.value (.func (70 : Nat))), #[(.tmp (11 : Nat)), (.tmp (12 : Nat))], #[121, 3]⟩, none⟩,
  ⟨(some 6), .assign (.tmp (13 : Nat)), none⟩]
def __rangecoder_Decoder__Get_r2 : List SO := [⟨(some 14), .move (.tmp (6 : Nat)), none⟩,
  ⟨(some 15), .binOp .neq 26 (.tmp (14 : Nat)) (.const (.int .i64 0)) 26, none⟩]
def __rangecoder_Decoder__Get_r3 : List SO := [⟨(some 16), .move (.tmp (6 : Nat)), none⟩,
  ⟨(some 4), .assign (.const (.int .i64 0)), none⟩,
  ⟨(some 5), .assign (.tmp (16 : Nat)), none⟩]
def __rangecoder_Decoder__Get_r4 : List SO := [⟨(some 17), .move (.tmp (0 : Nat)), none⟩,
  ⟨(some 18), .nilCheck (.tmp (17 : Nat)), none⟩,
  ⟨(some 19), .fieldAddr 131 (.tmp (18 : Nat)) 0, none⟩,
  ⟨(some 20), .move (.tmp (1 : Nat)), none⟩,
  ⟨(some 21), .call ⟨(.value (.func (71 : Nat))), #[(.tmp (19 : Nat)), (.tmp (20 : Nat))], #[121, 3]⟩, none⟩,
  ⟨(some 7), .assign (.tmp (21 : Nat)), none⟩,
  ⟨(some 8), .assign (.const (.int .i64 0)), none⟩]
def __rangecoder_Decoder__Get_r5 : List SO := [⟨(some 22), .move (.tmp (0 : Nat)), none⟩,
  ⟨(some 23), .nilCheck (.tmp (22 : Nat)), none⟩,
  ⟨(some 24), .fieldAddr 131 (.tmp (23 : Nat)) 1, none⟩,
  ⟨(some 25), .load 119 (.tmp (24 : Nat)), none⟩,
  ⟨(some 26), .move (.tmp (7 : Nat)), none⟩,
  ⟨(some 27), .binOp .lss 119 (.tmp (25 : Nat)) (.tmp (26 : Nat)) 119, none⟩]
def __rangecoder_Decoder__Get_r6 : List SO := [⟨(some 28), .move (.tmp (0 : Nat)), none⟩,
  ⟨(some 29), .move (.tmp (7 : Nat)), none⟩,
  ⟨(some 30), .nilCheck (.tmp (28 : Nat)), none⟩,
  ⟨(some 31), .fieldAddr 131 (.tmp (30 : Nat)) 0, none⟩,
  ⟨(some 32), .fieldAddr 121 (.tmp (31 : Nat)) 1, none⟩,
  ⟨none, .store 119 (.tmp (32 : Nat)) (.tmp (29 : Nat)), none⟩]
def __rangecoder_Decoder__Get_r7 : List SO := [⟨(some 33), .move (.tmp (0 : Nat)), none⟩,
  ⟨(some 34), .nilCheck (.tmp (33 : Nat)), none⟩,
  ⟨(some 35), .fieldAddr 131 (.tmp (34 : Nat)) 1, none⟩,
  ⟨(some 36), .load 119 (.tmp (35 : Nat)), none⟩,
  ⟨(some 37), .move (.tmp (7 : Nat)), none⟩,
  ⟨(some 38), .binOp .sub 119 (.tmp (36 : Nat)) (.tmp (37 : Nat)) 119, none⟩,
  ⟨(some 39), .nilCheck (.tmp (33 : Nat)), none⟩,
  ⟨(some 40), .fieldAddr 131 (.tmp (39 : Nat)) 1, none⟩,
  ⟨none, .store 119 (.tmp (40 : Nat)) (.tmp (38 : Nat)), none⟩]
def __rangecoder_Decoder__Get_r8 : List SO := [⟨(some 41), .move (.tmp (0 : Nat)), none⟩,
  ⟨(some 42), .nilCheck (.tmp (41 : Nat)), none⟩,
  ⟨(some 43), .fieldAddr 131 (.tmp (42 : Nat)) 0, none⟩,
  ⟨(some 44), .fieldAddr 121 (.tmp (43 : Nat)) 1, none⟩,
  ⟨(some 45), .load 119 (.tmp (44 : Nat)), none⟩,
  ⟨(some 46), .move (.tmp (7 : Nat)), none⟩,
  ⟨(some 47), .binOp .sub 119 (.tmp (45 : Nat)) (.tmp (46 : Nat)) 119, none⟩,
  ⟨(some 48), .nilCheck (.tmp (41 : Nat)), none⟩,
  ⟨(some 49), .fieldAddr 131 (.tmp (48 : Nat)) 0, none⟩,
  ⟨(some 50), .fieldAddr 121 (.tmp (49 : Nat)) 1, none⟩,
  ⟨none, .store 119 (.tmp (50 : Nat)) (.tmp (47 : Nat)), none⟩]
def __rangecoder_Decoder__Get_r9 : List SO := [⟨(some 8), .assign (.const (.int .i64 1)), none⟩]
def __rangecoder_Decoder__Get_r10 : List SO := [⟨(some 51), .move (.tmp (0 : Nat)), none⟩,
  ⟨(some 52), .nilCheck (.tmp (51 : Nat)), none⟩,
  ⟨(some 53), .fieldAddr 131 (.tmp (52 : Nat)) 0, none⟩,
  ⟨(some 54), .fieldAddr 121 (.tmp (53 : Nat)) 1, none⟩,
  ⟨(some 55), .load 119 (.tmp (54 : Nat)), none⟩,
  ⟨(some 56), .binOp .lss 119 (.tmp (55 : Nat)) (.const (.int .u32 16777216)) 119, none⟩]
def __rangecoder_Decoder__Get_r11 : List SO := [⟨(some 57), .move (.tmp (0 : Nat)), none⟩,
  ⟨(some 58), .move (.tmp (0 : Nat)), none⟩,
  ⟨(some 59), .nilCheck (.tmp (58 : Nat)), none⟩,
  ⟨(some 60), .fieldAddr 131 (.tmp (59 : Nat)) 1, none⟩,
  ⟨(some 61), .load 119 (.tmp (60 : Nat)), none⟩,
  ⟨(some 62), .binOp .shl 119 (.tmp (61 : Nat)) (.const (.int .u64 8)) 128, none⟩,
  ⟨(some 63), .move (.tmp (0 : Nat)), none⟩,
  ⟨(some 64), .call ⟨(.value (.func (74 : Nat))), #[(.tmp (63 : Nat))], #[70]⟩, none⟩,
  ⟨(some 65), .binOp .or 119 (.tmp (62 : Nat)) (.tmp (64 : Nat)) 119, none⟩,
  ⟨(some 66), .nilCheck (.tmp (57 : Nat)), none⟩,
  ⟨(some 67), .fieldAddr 131 (.tmp (66 : Nat)) 1, none⟩,
  ⟨none, .store 119 (.tmp (67 : Nat)) (.tmp (65 : Nat)), none⟩]
def __rangecoder_Decoder__Get_a11 : List (List Nat) := [[], [], [1], [2], [3], [4], [], [6], [5, 7], [0, 0, 1, 2, 3, 4, 5, 6, 7, 8], [9, 0, 1, 2, 3, 4, 5, 6, 7, 8], [10, 8, 7, 0, 1, 2, 3, 4, 5, 6, 7, 8]]
def __rangecoder_Decoder__Get_r12 : List SO := [⟨(some 68), .move (.tmp (0 : Nat)), none⟩,
  ⟨(some 69), .nilCheck (.tmp (68 : Nat)), none⟩,
  ⟨(some 70), .fieldAddr 131 (.tmp (69 : Nat)) 0, none⟩,
  ⟨(some 71), .fieldAddr 121 (.tmp (70 : Nat)) 1, none⟩,
  ⟨(some 72), .load 119 (.tmp (71 : Nat)), none⟩,
  ⟨(some 73), .binOp .shl 119 (.tmp (72 : Nat)) (.const (.int .u64 8)) 128, none⟩,
  ⟨(some 74), .nilCheck (.tmp (68 : Nat)), none⟩,
  ⟨(some 75), .fieldAddr 131 (.tmp (74 : Nat)) 0, none⟩,
  ⟨(some 76), .fieldAddr 121 (.tmp (75 : Nat)) 1, none⟩,
  ⟨none, .store 119 (.tmp (76 : Nat)) (.tmp (73 : Nat)), none⟩]
def __rangecoder_Decoder__Get_r13 : List SO := [⟨(some 77), .move (.tmp (0 : Nat)), none⟩,
  ⟨(some 78), .nilCheck (.tmp (77 : Nat)), none⟩,
  ⟨(some 79), .fieldAddr 131 (.tmp (78 : Nat)) 0, none⟩,
  ⟨(some 80), .move (.tmp (1 : Nat)), none⟩,
  ⟨(some 81), .move (.tmp (8 : Nat)), none⟩,
  ⟨(some 82), .call ⟨(.value (.func (73 : Nat))), #[(.tmp (79 : Nat)), (.tmp (80 : Nat)), (.tmp (81 : Nat))], #[121, 3, 3]⟩, none⟩]
def __rangecoder_Decoder__Get_r14 : List SO := [⟨(some 83), .move (.tmp (8 : Nat)), none⟩,
  ⟨(some 4), .assign (.tmp (83 : Nat)), none⟩,
  ⟨(some 5), .assign (.const (.int .i64 0)), none⟩]
def __rangecoder_Decoder__Get_c : SF := ⟨84, (.seq (.reg __rangecoder_Decoder__Get_r0)
  (.seq (.seq (.reg __rangecoder_Decoder__Get_r1)
  (.seq (.reg __rangecoder_Decoder__Get_r2)
  (.cond (.tmp (15 : Nat)) (.seq (.reg __rangecoder_Decoder__Get_r3)
  .ret) .skip)))
  (.seq (.reg __rangecoder_Decoder__Get_r4)
  (.seq (.seq (.reg __rangecoder_Decoder__Get_r5)
  (.cond (.tmp (27 : Nat)) (.reg __rangecoder_Decoder__Get_r6) (.seq (.reg __rangecoder_Decoder__Get_r7)
  (.seq (.reg __rangecoder_Decoder__Get_r8)
  (.reg __rangecoder_Decoder__Get_r9)))))
  (.seq (.block 0 (.loop (.seq (.seq (.reg __rangecoder_Decoder__Get_r10)
  (.cond (.tmp (56 : Nat)) .skip (.exit 0)))
  (.block 1 (.seq (.regd __rangecoder_Decoder__Get_r11 __rangecoder_Decoder__Get_a11)
  (.reg __rangecoder_Decoder__Get_r12))))))
  (.seq (.reg __rangecoder_Decoder__Get_r13)
  (.seq (.reg __rangecoder_Decoder__Get_r14)
  .ret))))))), [.tmp 4, .tmp 5]⟩
theorem __rangecoder_Decoder__Get_s : slimF Try.prog 38 = some __rangecoder_Decoder__Get_c := by kernel_rfl
abbrev __rangecoder_Decoder__Get_f : Nat := 38
/-- printworks/rangecoder.begin -/
def rangecoder_begin_r0 : List SO := [⟨(some 2), .alloc 121, none⟩,
  ⟨(some 3), .assign (.const (.int .i64 0)), none⟩]
def rangecoder_begin_r1 : List SO := [⟨(some 4), .move (.tmp (0 : Nat)), none⟩,
  ⟨(some 5), .binOp .lss 3 (.tmp (4 : Nat)) (.const (.int .i64 1)) 3, none⟩,
  ⟨(some 6), .move (.tmp (5 : Nat)), none⟩,
  ⟨(some 7), .move (.tmp (0 : Nat)), (some (6, false))⟩,
  ⟨(some 8), .binOp .gtr 3 (.tmp (7 : Nat)) (.const (.int .i64 4096)) 3, (some (6, false))⟩,
  ⟨(some 9), .pick (.tmp (6 : Nat)) (.const (.bool true)) (.tmp (8 : Nat)), none⟩]
def rangecoder_begin_r2 : List SO := [⟨(some 10), .build 121 #[], none⟩,
  ⟨none, .store 121 (.tmp (2 : Nat)) (.tmp (10 : Nat)), none⟩,
  ⟨(some 3), .assign (.const (.int .i64 3)), none⟩]
def rangecoder_begin_r3 : List SO := [⟨(some 11), .move (.tmp (0 : Nat)), none⟩,
  ⟨(some 12), .makeSlice 118 (.tmp (11 : Nat)) (.tmp (11 : Nat)), none⟩,
  ⟨(some 13), .build 121 #[(0, (.tmp (12 : Nat))), (1, (.const (.int .u32 4294967295)))], none⟩,
  ⟨none, .store 121 (.tmp (2 : Nat)) (.tmp (13 : Nat)), none⟩,
  ⟨(some 3), .assign (.const (.int .i64 0)), none⟩]
def rangecoder_begin_c : SF := ⟨14, (.seq (.reg rangecoder_begin_r0)
  (.seq (.seq (.reg rangecoder_begin_r1)
  (.cond (.tmp (9 : Nat)) (.seq (.reg rangecoder_begin_r2)
  .ret) .skip))
  (.seq (.reg rangecoder_begin_r3)
  .ret))), [.cell 2 121, .tmp 3]⟩
theorem rangecoder_begin_s : slimF Try.prog 69 = some rangecoder_begin_c := by kernel_rfl
abbrev rangecoder_begin_f : Nat := 69
/-- (*printworks/rangecoder.model).check -/
def __rangecoder_model__check_r0 : List SO := [⟨(some 4), .assign (.const (.int .i64 0)), none⟩]
def __rangecoder_model__check_r1 : List SO := [⟨(some 5), .move (.tmp (1 : Nat)), none⟩,
  ⟨(some 6), .binOp .lss 3 (.tmp (5 : Nat)) (.const (.int .i64 0)) 3, none⟩,
  ⟨(some 7), .move (.tmp (6 : Nat)), none⟩,
  ⟨(some 8), .move (.tmp (1 : Nat)), (some (7, false))⟩,
  ⟨(some 9), .move (.tmp (0 : Nat)), (some (7, false))⟩,
  ⟨(some 10), .nilCheck (.tmp (9 : Nat)), (some (7, false))⟩,
  ⟨(some 11), .fieldAddr 121 (.tmp (10 : Nat)) 0, (some (7, false))⟩,
  ⟨(some 12), .load 118 (.tmp (11 : Nat)), (some (7, false))⟩,
  ⟨(some 13), .call ⟨(.builtin .len), #[(.tmp (12 : Nat))], #[118]⟩, (some (7, false))⟩,
  ⟨(some 14), .binOp .geq 3 (.tmp (8 : Nat)) (.tmp (13 : Nat)) 3, (some (7, false))⟩,
  ⟨(some 15), .pick (.tmp (7 : Nat)) (.const (.bool true)) (.tmp (14 : Nat)), none⟩]
def __rangecoder_model__check_r2 : List SO := [⟨(some 4), .assign (.const (.int .i64 3)), none⟩]
def __rangecoder_model__check_r3 : List SO := [⟨(some 16), .move (.tmp (0 : Nat)), none⟩,
  ⟨(some 17), .nilCheck (.tmp (16 : Nat)), none⟩,
  ⟨(some 18), .fieldAddr 121 (.tmp (17 : Nat)) 2, none⟩,
  ⟨(some 19), .load 3 (.tmp (18 : Nat)), none⟩,
  ⟨(some 20), .binOp .geq 3 (.tmp (19 : Nat)) (.const (.int .i64 1048576)) 3, none⟩]
def __rangecoder_model__check_r4 : List SO := [⟨(some 4), .assign (.const (.int .i64 16)), none⟩]
def __rangecoder_model__check_r5 : List SO := [⟨(some 4), .assign (.const (.int .i64 0)), none⟩]
def __rangecoder_model__check_c : SF := ⟨21, (.seq (.reg __rangecoder_model__check_r0)
  (.seq (.seq (.reg __rangecoder_model__check_r1)
  (.cond (.tmp (15 : Nat)) (.seq (.reg __rangecoder_model__check_r2)
  .ret) .skip))
  (.seq (.seq (.reg __rangecoder_model__check_r3)
  (.cond (.tmp (20 : Nat)) (.seq (.reg __rangecoder_model__check_r4)
  .ret) .skip))
  (.seq (.reg __rangecoder_model__check_r5)
  .ret)))), [.tmp 4]⟩
theorem __rangecoder_model__check_s : slimF Try.prog 70 = some __rangecoder_model__check_c := by kernel_rfl
abbrev __rangecoder_model__check_f : Nat := 70
/-- (*printworks/rangecoder.model).split -/
def __rangecoder_model__split_r0 : List SO := [⟨(some 4), .assign (.const (.int .u32 0)), none⟩]
def __rangecoder_model__split_r1 : List SO := [⟨(some 6), .move (.tmp (0 : Nat)), none⟩,
  ⟨(some 7), .nilCheck (.tmp (6 : Nat)), none⟩,
  ⟨(some 8), .fieldAddr 121 (.tmp (7 : Nat)) 0, none⟩,
  ⟨(some 9), .load 118 (.tmp (8 : Nat)), none⟩,
  ⟨(some 10), .move (.tmp (1 : Nat)), none⟩,
  ⟨(some 11), .indexAddr 118 (.tmp (9 : Nat)) (.tmp (10 : Nat)), none⟩,
  ⟨(some 12), .load 175 (.tmp (11 : Nat)), none⟩,
  ⟨(some 5), .alloc 175, none⟩,
  ⟨none, .store 175 (.tmp (5 : Nat)) (.tmp (12 : Nat)), none⟩]
def __rangecoder_model__split_r2 : List SO := [⟨(some 13), .move (.tmp (0 : Nat)), none⟩,
  ⟨(some 14), .nilCheck (.tmp (13 : Nat)), none⟩,
  ⟨(some 15), .fieldAddr 121 (.tmp (14 : Nat)) 1, none⟩,
  ⟨(some 16), .load 119 (.tmp (15 : Nat)), none⟩,
  ⟨(some 17), .fieldAddr 175 (.tmp (5 : Nat)) 1, none⟩,
  ⟨(some 18), .load 119 (.tmp (17 : Nat)), none⟩,
  ⟨(some 19), .binOp .add 119 (.tmp (18 : Nat)) (.const (.int .u32 2)) 119, none⟩,
  ⟨(some 20), .binOp .quo 119 (.tmp (16 : Nat)) (.tmp (19 : Nat)) 119, none⟩,
  ⟨(some 21), .fieldAddr 175 (.tmp (5 : Nat)) 0, none⟩,
  ⟨(some 22), .load 119 (.tmp (21 : Nat)), none⟩,
  ⟨(some 23), .binOp .add 119 (.tmp (22 : Nat)) (.const (.int .u32 1)) 119, none⟩,
  ⟨(some 24), .binOp .mul 119 (.tmp (20 : Nat)) (.tmp (23 : Nat)) 119, none⟩,
  ⟨(some 4), .assign (.tmp (24 : Nat)), none⟩]
def __rangecoder_model__split_a2 : List (List Nat) := [[], [0], [1], [2], [], [4], [5], [3, 6], [], [8], [9], [7, 10], [11, 0, 1, 2, 3, 4, 5, 6, 7, 8, 9, 10, 11]]
def __rangecoder_model__split_c : SF := ⟨25, (.seq (.reg __rangecoder_model__split_r0)
  (.seq (.reg __rangecoder_model__split_r1)
  (.seq (.regd __rangecoder_model__split_r2 __rangecoder_model__split_a2)
  .ret))), [.tmp 4]⟩
theorem __rangecoder_model__split_s : slimF Try.prog 71 = some __rangecoder_model__split_c := by kernel_rfl
abbrev __rangecoder_model__split_f : Nat := 71
/-- (*printworks/rangecoder.Encoder).carry -/
def __rangecoder_Encoder__carry_r0 : List SO := [⟨(some 3), .move (.tmp (0 : Nat)), none⟩,
  ⟨(some 4), .nilCheck (.tmp (3 : Nat)), none⟩,
  ⟨(some 5), .fieldAddr 125 (.tmp (4 : Nat)) 2, none⟩,
  ⟨(some 6), .load 57 (.tmp (5 : Nat)), none⟩,
  ⟨(some 7), .call ⟨(.builtin .len), #[(.tmp (6 : Nat))], #[57]⟩, none⟩,
  ⟨(some 8), .binOp .sub 3 (.tmp (7 : Nat)) (.const (.int .i64 1)) 3, none⟩,
  ⟨(some 2), .assign (.tmp (8 : Nat)), none⟩]
def __rangecoder_Encoder__carry_r1 : List SO := [⟨(some 9), .move (.tmp (2 : Nat)), none⟩,
  ⟨(some 10), .binOp .geq 3 (.tmp (9 : Nat)) (.const (.int .i64 0)) 3, none⟩]
def __rangecoder_Encoder__carry_r2 : List SO := [⟨(some 11), .move (.tmp (0 : Nat)), none⟩,
  ⟨(some 12), .nilCheck (.tmp (11 : Nat)), none⟩,
  ⟨(some 13), .fieldAddr 125 (.tmp (12 : Nat)) 2, none⟩,
  ⟨(some 14), .load 57 (.tmp (13 : Nat)), none⟩,
  ⟨(some 15), .move (.tmp (2 : Nat)), none⟩,
  ⟨(some 16), .indexAddr 57 (.tmp (14 : Nat)) (.tmp (15 : Nat)), none⟩,
  ⟨(some 17), .load 5 (.tmp (16 : Nat)), none⟩,
  ⟨(some 18), .binOp .add 5 (.tmp (17 : Nat)) (.const (.int .u8 1)) 5, none⟩,
  ⟨(some 19), .indexAddr 57 (.tmp (14 : Nat)) (.tmp (15 : Nat)), none⟩,
  ⟨none, .store 5 (.tmp (19 : Nat)) (.tmp (18 : Nat)), none⟩]
def __rangecoder_Encoder__carry_r3 : List SO := [⟨(some 20), .move (.tmp (0 : Nat)), none⟩,
  ⟨(some 21), .nilCheck (.tmp (20 : Nat)), none⟩,
  ⟨(some 22), .fieldAddr 125 (.tmp (21 : Nat)) 2, none⟩,
  ⟨(some 23), .load 57 (.tmp (22 : Nat)), none⟩,
  ⟨(some 24), .move (.tmp (2 : Nat)), none⟩,
  ⟨(some 25), .indexAddr 57 (.tmp (23 : Nat)) (.tmp (24 : Nat)), none⟩,
  ⟨(some 26), .load 5 (.tmp (25 : Nat)), none⟩,
  ⟨(some 27), .binOp .neq 5 (.tmp (26 : Nat)) (.const (.int .u8 0)) 5, none⟩]
def __rangecoder_Encoder__carry_r4 : List SO := [⟨(some 28), .move (.tmp (2 : Nat)), none⟩,
  ⟨(some 29), .binOp .sub 3 (.tmp (28 : Nat)) (.const (.int .i64 1)) 3, none⟩,
  ⟨(some 2), .assign (.tmp (29 : Nat)), none⟩]
def __rangecoder_Encoder__carry_c : SF := ⟨30, (.seq (.reg __rangecoder_Encoder__carry_r0)
  (.block 0 (.loop (.seq (.seq (.reg __rangecoder_Encoder__carry_r1)
  (.cond (.tmp (10 : Nat)) .skip (.exit 0)))
  (.block 1 (.seq (.seq (.reg __rangecoder_Encoder__carry_r2)
  (.seq (.reg __rangecoder_Encoder__carry_r3)
  (.cond (.tmp (27 : Nat)) .ret .skip)))
  (.reg __rangecoder_Encoder__carry_r4))))))), []⟩
theorem __rangecoder_Encoder__carry_s : slimF Try.prog 72 = some __rangecoder_Encoder__carry_c := by kernel_rfl
abbrev __rangecoder_Encoder__carry_f : Nat := 72
/-- (*printworks/rangecoder.model).learn -/
def __rangecoder_model__learn_r0 : List SO := [⟨(some 8), .move (.tmp (0 : Nat)), none⟩,
  ⟨(some 9), .nilCheck (.tmp (8 : Nat)), none⟩,
  ⟨(some 10), .fieldAddr 121 (.tmp (9 : Nat)) 0, none⟩,
  ⟨(some 11), .load 118 (.tmp (10 : Nat)), none⟩,
  ⟨(some 12), .move (.tmp (1 : Nat)), none⟩,
  ⟨(some 13), .indexAddr 118 (.tmp (11 : Nat)) (.tmp (12 : Nat)), none⟩,
  ⟨(some 6), .assign (.tmp (13 : Nat)), none⟩]
def __rangecoder_model__learn_r1 : List SO := [⟨(some 14), .move (.tmp (6 : Nat)), none⟩,
  ⟨(some 15), .nilCheck (.tmp (14 : Nat)), none⟩,
  ⟨(some 16), .fieldAddr 175 (.tmp (15 : Nat)) 0, none⟩,
  ⟨(some 17), .load 119 (.tmp (16 : Nat)), none⟩,
  ⟨(some 18), .move (.tmp (2 : Nat)), none⟩,
  ⟨(some 19), .binOp .sub 3 (.const (.int .i64 1)) (.tmp (18 : Nat)) 3, none⟩,
  ⟨(some 20), .convert 3 119 (.tmp (19 : Nat)), none⟩,
  ⟨(some 21), .binOp .add 119 (.tmp (17 : Nat)) (.tmp (20 : Nat)) 119, none⟩,
  ⟨(some 22), .nilCheck (.tmp (14 : Nat)), none⟩,
  ⟨(some 23), .fieldAddr 175 (.tmp (22 : Nat)) 0, none⟩,
  ⟨none, .store 119 (.tmp (23 : Nat)) (.tmp (21 : Nat)), none⟩]
def __rangecoder_model__learn_r2 : List SO := [⟨(some 24), .move (.tmp (6 : Nat)), none⟩,
  ⟨(some 25), .nilCheck (.tmp (24 : Nat)), none⟩,
  ⟨(some 26), .fieldAddr 175 (.tmp (25 : Nat)) 1, none⟩,
  ⟨(some 27), .load 119 (.tmp (26 : Nat)), none⟩,
  ⟨(some 28), .binOp .add 119 (.tmp (27 : Nat)) (.const (.int .u32 1)) 119, none⟩,
  ⟨(some 29), .nilCheck (.tmp (24 : Nat)), none⟩,
  ⟨(some 30), .fieldAddr 175 (.tmp (29 : Nat)) 1, none⟩,
  ⟨none, .store 119 (.tmp (30 : Nat)) (.tmp (28 : Nat)), none⟩]
def __rangecoder_model__learn_r3 : List SO := [⟨(some 31), .move (.tmp (6 : Nat)), none⟩,
  ⟨(some 32), .nilCheck (.tmp (31 : Nat)), none⟩,
  ⟨(some 33), .fieldAddr 175 (.tmp (32 : Nat)) 1, none⟩,
  ⟨(some 34), .load 119 (.tmp (33 : Nat)), none⟩,
  ⟨(some 35), .binOp .eql 119 (.tmp (34 : Nat)) (.const (.int .u32 254)) 119, none⟩]
def __rangecoder_model__learn_r4 : List SO := [⟨(some 36), .move (.tmp (6 : Nat)), none⟩,
  ⟨(some 37), .nilCheck (.tmp (36 : Nat)), none⟩,
  ⟨(some 38), .fieldAddr 175 (.tmp (37 : Nat)) 1, none⟩,
  ⟨(some 39), .load 119 (.tmp (38 : Nat)), none⟩,
  ⟨(some 40), .move (.tmp (6 : Nat)), none⟩,
  ⟨(some 41), .nilCheck (.tmp (40 : Nat)), none⟩,
  ⟨(some 42), .fieldAddr 175 (.tmp (41 : Nat)) 0, none⟩,
  ⟨(some 43), .load 119 (.tmp (42 : Nat)), none⟩,
  ⟨(some 44), .binOp .sub 119 (.tmp (39 : Nat)) (.tmp (43 : Nat)) 119, none⟩,
  ⟨(some 45), .binOp .quo 119 (.tmp (44 : Nat)) (.const (.int .u32 2)) 119, none⟩,
  ⟨(some 7), .assign (.tmp (45 : Nat)), none⟩]
def __rangecoder_model__learn_a4 : List (List Nat) := [[], [0], [1], [2], [], [4], [5], [6], [3, 7], [8], [9, 0, 1, 2, 3, 4, 5, 6, 7, 8, 9]]
def __rangecoder_model__learn_r5 : List SO := [⟨(some 46), .move (.tmp (6 : Nat)), none⟩,
  ⟨(some 47), .nilCheck (.tmp (46 : Nat)), none⟩,
  ⟨(some 48), .fieldAddr 175 (.tmp (47 : Nat)) 0, none⟩,
  ⟨(some 49), .load 119 (.tmp (48 : Nat)), none⟩,
  ⟨(some 50), .binOp .quo 119 (.tmp (49 : Nat)) (.const (.int .u32 2)) 119, none⟩,
  ⟨(some 51), .nilCheck (.tmp (46 : Nat)), none⟩,
  ⟨(some 52), .fieldAddr 175 (.tmp (51 : Nat)) 0, none⟩,
  ⟨none, .store 119 (.tmp (52 : Nat)) (.tmp (50 : Nat)), none⟩]
def __rangecoder_model__learn_r6 : List SO := [⟨(some 53), .move (.tmp (6 : Nat)), none⟩,
  ⟨(some 54), .move (.tmp (6 : Nat)), none⟩,
  ⟨(some 55), .nilCheck (.tmp (54 : Nat)), none⟩,
  ⟨(some 56), .fieldAddr 175 (.tmp (55 : Nat)) 0, none⟩,
  ⟨(some 57), .load 119 (.tmp (56 : Nat)), none⟩,
  ⟨(some 58), .move (.tmp (7 : Nat)), none⟩,
  ⟨(some 59), .binOp .add 119 (.tmp (57 : Nat)) (.tmp (58 : Nat)) 119, none⟩,
  ⟨(some 60), .nilCheck (.tmp (53 : Nat)), none⟩,
  ⟨(some 61), .fieldAddr 175 (.tmp (60 : Nat)) 1, none⟩,
  ⟨none, .store 119 (.tmp (61 : Nat)) (.tmp (59 : Nat)), none⟩]
def __rangecoder_model__learn_r7 : List SO := [⟨(some 62), .move (.tmp (0 : Nat)), none⟩,
  ⟨(some 63), .nilCheck (.tmp (62 : Nat)), none⟩,
  ⟨(some 64), .fieldAddr 121 (.tmp (63 : Nat)) 2, none⟩,
  ⟨(some 65), .load 3 (.tmp (64 : Nat)), none⟩,
  ⟨(some 66), .binOp .add 3 (.tmp (65 : Nat)) (.const (.int .i64 1)) 3, none⟩,
  ⟨(some 67), .nilCheck (.tmp (62 : Nat)), none⟩,
  ⟨(some 68), .fieldAddr 121 (.tmp (67 : Nat)) 2, none⟩,
  ⟨none, .store 3 (.tmp (68 : Nat)) (.tmp (66 : Nat)), none⟩]
def __rangecoder_model__learn_c : SF := ⟨69, (.seq (.reg __rangecoder_model__learn_r0)
  (.seq (.reg __rangecoder_model__learn_r1)
  (.seq (.seq (.reg __rangecoder_model__learn_r2)
  (.seq (.reg __rangecoder_model__learn_r3)
  (.cond (.tmp (35 : Nat)) (.seq (.regd __rangecoder_model__learn_r4 __rangecoder_model__learn_a4)
  (.seq (.reg __rangecoder_model__learn_r5)
  (.reg __rangecoder_model__learn_r6))) .skip)))
  (.reg __rangecoder_model__learn_r7)))), []⟩
theorem __rangecoder_model__learn_s : slimF Try.prog 73 = some __rangecoder_model__learn_c := by kernel_rfl
abbrev __rangecoder_model__learn_f : Nat := 73
/-- (*printworks/rangecoder.Decoder).next -/
def __rangecoder_Decoder__next_r0 : List SO := [⟨(some 2), .assign (.const (.int .u32 0)), none⟩]
def __rangecoder_Decoder__next_r1 : List SO := [⟨(some 4), .move (.tmp (0 : Nat)), none⟩,
  ⟨(some 5), .nilCheck (.tmp (4 : Nat)), none⟩,
  ⟨(some 6), .fieldAddr 131 (.tmp (5 : Nat)) 2, none⟩,
  ⟨(some 7), .load 57 (.tmp (6 : Nat)), none⟩,
  ⟨(some 8), .call ⟨(.builtin .len), #[(.tmp (7 : Nat))], #[57]⟩, none⟩,
  ⟨(some 9), .binOp .eql 3 (.tmp (8 : Nat)) (.const (.int .i64 0)) 3, none⟩]
def __rangecoder_Decoder__next_r2 : List SO := [⟨(some 2), .assign (.const (.int .u32 0)), none⟩]
def __rangecoder_Decoder__next_r3 : List SO := [⟨(some 10), .move (.tmp (0 : Nat)), none⟩,
  ⟨(some 11), .nilCheck (.tmp (10 : Nat)), none⟩,
  ⟨(some 12), .fieldAddr 131 (.tmp (11 : Nat)) 2, none⟩,
  ⟨(some 13), .load 57 (.tmp (12 : Nat)), none⟩,
  ⟨(some 14), .indexAddr 57 (.tmp (13 : Nat)) (.const (.int .i64 0)), none⟩,
  ⟨(some 15), .load 5 (.tmp (14 : Nat)), none⟩,
  ⟨(some 3), .assign (.tmp (15 : Nat)), none⟩]
def __rangecoder_Decoder__next_r4 : List SO := [⟨(some 16), .move (.tmp (0 : Nat)), none⟩,
  ⟨(some 17), .move (.tmp (0 : Nat)), none⟩,
  ⟨(some 18), .nilCheck (.tmp (17 : Nat)), none⟩,
  ⟨(some 19), .fieldAddr 131 (.tmp (18 : Nat)) 2, none⟩,
  ⟨(some 20), .load 57 (.tmp (19 : Nat)), none⟩,
  ⟨(some 21), .slice 57 (.tmp (20 : Nat)) (some (.const (.int .i64 1))) none none, none⟩,
  ⟨(some 22), .nilCheck (.tmp (16 : Nat)), none⟩,
  ⟨(some 23), .fieldAddr 131 (.tmp (22 : Nat)) 2, none⟩,
  ⟨none, .store 57 (.tmp (23 : Nat)) (.tmp (21 : Nat)), none⟩]
def __rangecoder_Decoder__next_r5 : List SO := [⟨(some 24), .move (.tmp (3 : Nat)), none⟩,
  ⟨(some 25), .convert 5 119 (.tmp (24 : Nat)), none⟩,
  ⟨(some 2), .assign (.tmp (25 : Nat)), none⟩]
def __rangecoder_Decoder__next_c : SF := ⟨26, (.seq (.reg __rangecoder_Decoder__next_r0)
  (.seq (.seq (.reg __rangecoder_Decoder__next_r1)
  (.cond (.tmp (9 : Nat)) (.seq (.reg __rangecoder_Decoder__next_r2)
  .ret) .skip))
  (.seq (.reg __rangecoder_Decoder__next_r3)
  (.seq (.reg __rangecoder_Decoder__next_r4)
  (.seq (.reg __rangecoder_Decoder__next_r5)
  .ret))))), [.tmp 2]⟩
theorem __rangecoder_Decoder__next_s : slimF Try.prog 74 = some __rangecoder_Decoder__next_c := by kernel_rfl
abbrev __rangecoder_Decoder__next_f : Nat := 74

end Go.Proofs.Ythnfbdihihhoiaa
namespace Go.Proofs.Ythnfbdihihhoiaa
open Go Go.Lite
set_option linter.unusedVariables false

/-- printworks/printworkskeep2.rangecoderWorks -/
def K2_rangecoderWorks_r0 : List SO := [⟨(some 0), .assign (.const (.bool false)), none⟩]
def K2_rangecoderWorks_r1 : List SO := [⟨(some 8), .buildSlice 22 1 #[(0, (.const (.int .i64 0)))], none⟩,
  ⟨(some 9), .buildSlice 22 1 #[(0, (.const (.int .i64 1)))], none⟩,
  ⟨(some 10), .call ⟨(.value (.func (31 : Nat))), #[(.const (.int .i64 1)), (.tmp (8 : Nat)), (.tmp (9 : Nat))], #[3, 22, 22]⟩, none⟩,
  ⟨(some 7), .move (.tmp (10 : Nat)), none⟩,
  ⟨(some 11), .extract (.tmp (7 : Nat)) 0, none⟩,
  ⟨(some 12), .extract (.tmp (7 : Nat)) 1, none⟩,
  ⟨(some 1), .assign (.tmp (11 : Nat)), none⟩,
  ⟨(some 2), .assign (.tmp (12 : Nat)), none⟩]
def K2_rangecoderWorks_r2 : List SO := [⟨(some 14), .buildSlice 22 1 #[(0, (.const (.int .i64 0)))], none⟩,
  ⟨(some 15), .buildSlice 22 1 #[(0, (.const (.int .i64 0)))], none⟩,
  ⟨(some 16), .call ⟨(.value (.func (31 : Nat))), #[(.const (.int .i64 1)), (.tmp (14 : Nat)), (.tmp (15 : Nat))], #[3, 22, 22]⟩, none⟩,
  ⟨(some 13), .move (.tmp (16 : Nat)), none⟩,
  ⟨(some 17), .extract (.tmp (13 : Nat)) 0, none⟩,
  ⟨(some 18), .extract (.tmp (13 : Nat)) 1, none⟩,
  ⟨(some 3), .assign (.tmp (17 : Nat)), none⟩,
  ⟨(some 4), .assign (.tmp (18 : Nat)), none⟩]
def K2_rangecoderWorks_r3 : List SO := [⟨(some 20), .buildSlice 57 4 #[(0, (.const (.int .u8 127))), (1, (.const (.int .u8 255))), (2, (.const (.int .u8 255))), (3, (.const (.int .u8 255)))], none⟩,
  ⟨(some 21), .buildSlice 22 1 #[(0, (.const (.int .i64 0)))], none⟩,
  ⟨(some 22), .call ⟨(.value (.func (32 : Nat))), #[(.const (.int .i64 1)), (.tmp (20 : Nat)), (.tmp (21 : Nat))], #[3, 57, 22]⟩, none⟩,
  ⟨(some 19), .move (.tmp (22 : Nat)), none⟩,
  ⟨(some 23), .extract (.tmp (19 : Nat)) 0, none⟩,
  ⟨(some 24), .extract (.tmp (19 : Nat)) 1, none⟩,
  ⟨(some 5), .assign (.tmp (23 : Nat)), none⟩,
  ⟨(some 6), .assign (.tmp (24 : Nat)), none⟩]
def K2_rangecoderWorks_r4 : List SO := [⟨(some 25), .move (.tmp (2 : Nat)), none⟩,
  ⟨(some 26), .binOp .eql 26 (.tmp (25 : Nat)) (.const (.int .i64 0)) 26, none⟩,
  ⟨(some 27), .move (.tmp (26 : Nat)), none⟩,
  ⟨(some 28), .move (.tmp (1 : Nat)), (some (27, true))⟩,
  ⟨(some 29), .buildSlice 57 4 #[(0, (.const (.int .u8 127))), (1, (.const (.int .u8 255))), (2, (.const (.int .u8 255))), (3, (.const (.int .u8 255)))], (some (27, true))⟩,
  ⟨(some 30), .call ⟨(.value (.func (36 : Nat))), #[(.tmp (28 : Nat)), (.tmp (29 : Nat))], #[57, 57]⟩, (some (27, true))⟩,
  ⟨(some 31), .pick (.tmp (27 : Nat)) (.tmp (30 : Nat)) (.const (.bool false)), none⟩,
  ⟨(some 32), .move (.tmp (31 : Nat)), none⟩,
  ⟨(some 33), .move (.tmp (4 : Nat)), (some (32, true))⟩,
  ⟨(some 34), .binOp .eql 26 (.tmp (33 : Nat)) (.const (.int .i64 0)) 26, (some (32, true))⟩,
  ⟨(some 35), .pick (.tmp (32 : Nat)) (.tmp (34 : Nat)) (.const (.bool false)), none⟩,
  ⟨(some 36), .move (.tmp (35 : Nat)), none⟩,
  ⟨(some 37), .move (.tmp (3 : Nat)), (some (36, true))⟩,
  ⟨(some 38), .call ⟨(.builtin .len), #[(.tmp (37 : Nat))], #[57]⟩, (some (36, true))⟩,
  ⟨(some 39), .binOp .eql 3 (.tmp (38 : Nat)) (.const (.int .i64 0)) 3, (some (36, true))⟩,
  ⟨(some 40), .pick (.tmp (36 : Nat)) (.tmp (39 : Nat)) (.const (.bool false)), none⟩,
  ⟨(some 41), .move (.tmp (40 : Nat)), none⟩,
  ⟨(some 42), .move (.tmp (6 : Nat)), (some (41, true))⟩,
  ⟨(some 43), .binOp .eql 26 (.tmp (42 : Nat)) (.const (.int .i64 0)) 26, (some (41, true))⟩,
  ⟨(some 44), .pick (.tmp (41 : Nat)) (.tmp (43 : Nat)) (.const (.bool false)), none⟩,
  ⟨(some 45), .move (.tmp (44 : Nat)), none⟩,
  ⟨(some 46), .move (.tmp (5 : Nat)), (some (45, true))⟩,
  ⟨(some 47), .buildSlice 22 1 #[(0, (.const (.int .i64 1)))], (some (45, true))⟩,
  ⟨(some 48), .call ⟨(.value (.func (23 : Nat))), #[(.tmp (46 : Nat)), (.tmp (47 : Nat))], #[22, 22]⟩, (some (45, true))⟩,
  ⟨(some 49), .pick (.tmp (45 : Nat)) (.tmp (48 : Nat)) (.const (.bool false)), none⟩,
  ⟨(some 0), .assign (.tmp (49 : Nat)), none⟩]
def K2_rangecoderWorks_c : SF := ⟨50, (.seq (.reg K2_rangecoderWorks_r0)
  (.seq (.reg K2_rangecoderWorks_r1)
  (.seq (.reg K2_rangecoderWorks_r2)
  (.seq (.reg K2_rangecoderWorks_r3)
  (.seq (.reg K2_rangecoderWorks_r4)
  .ret))))), [.tmp 0]⟩
theorem K2_rangecoderWorks_s : slimF Try.prog 30 = some K2_rangecoderWorks_c := by kernel_rfl
abbrev K2_rangecoderWorks_f : Nat := 30

end Go.Proofs.Ythnfbdihihhoiaa
namespace Go.Proofs.Ythnfbdihihhoiaa
open Go Go.Lite
set_option linter.unusedVariables false

/-- printworks/printworkskeep2.RangecoderAnyBytes -/
def K2_RangecoderAnyBytes_r0 : List SO := [⟨(some 4), .assign (.const (.bool false)), none⟩]
def K2_RangecoderAnyBytes_r1 : List SO := [⟨(some 22), .call ⟨(.value (.func (30 : Nat))), #[], #[]⟩, none⟩,
  ⟨(some 23), .unOp .not 4 (.tmp (22 : Nat)), none⟩]
def K2_RangecoderAnyBytes_r2 : List SO := [⟨(some 4), .assign (.const (.bool false)), none⟩]
def K2_RangecoderAnyBytes_r3 : List SO := [⟨(some 24), .move (.tmp (0 : Nat)), none⟩,
  ⟨(some 25), .call ⟨(.builtin .len), #[(.tmp (24 : Nat))], #[57]⟩, none⟩,
  ⟨(some 26), .binOp .gtr 3 (.tmp (25 : Nat)) (.const (.int .i64 200)) 3, none⟩,
  ⟨(some 27), .move (.tmp (26 : Nat)), none⟩,
  ⟨(some 28), .move (.tmp (1 : Nat)), (some (27, false))⟩,
  ⟨(some 29), .call ⟨(.builtin .len), #[(.tmp (28 : Nat))], #[22]⟩, (some (27, false))⟩,
  ⟨(some 30), .binOp .gtr 3 (.tmp (29 : Nat)) (.const (.int .i64 400)) 3, (some (27, false))⟩,
  ⟨(some 31), .pick (.tmp (27 : Nat)) (.const (.bool true)) (.tmp (30 : Nat)), none⟩]
def K2_RangecoderAnyBytes_r4 : List SO := [⟨(some 4), .assign (.const (.bool true)), none⟩]
def K2_RangecoderAnyBytes_r5 : List SO := [⟨(some 5), .assign (.const (.slice none 0 0)), none⟩]
def K2_RangecoderAnyBytes_r6 : List SO := [⟨(some 32), .move (.tmp (1 : Nat)), none⟩,
  ⟨(some 33), .call ⟨(.builtin .len), #[(.tmp (32 : Nat))], #[22]⟩, none⟩,
  ⟨(some 34), .move (.const (.int .i64 0)), none⟩]
def K2_RangecoderAnyBytes_r7 : List SO := [⟨(some 35), .binOp .lss 3 (.tmp (34 : Nat)) (.tmp (33 : Nat)) 3, none⟩]
def K2_RangecoderAnyBytes_r8 : List SO := [⟨(some 36), .indexAddr 22 (.tmp (32 : Nat)) (.tmp (34 : Nat)), none⟩,
  ⟨(some 37), .load 3 (.tmp (36 : Nat)), none⟩,
  ⟨(some 7), .assign (.tmp (37 : Nat)), none⟩]
def K2_RangecoderAnyBytes_r9 : List SO := [⟨(some 38), .move (.tmp (5 : Nat)), none⟩,
  ⟨(some 39), .move (.tmp (7 : Nat)), none⟩,
  ⟨(some 40), .call ⟨(.value (.func (17 : Nat))), #[(.tmp (39 : Nat)), (.const (.int .i64 7))], #[3, 3]⟩, none⟩,
  ⟨(some 41), .buildSlice 22 1 #[(0, (.tmp (40 : Nat)))], none⟩,
  ⟨(some 42), .call ⟨(.builtin .append), #[(.tmp (38 : Nat)), (.tmp (41 : Nat))], #[22, 22]⟩, none⟩,
  ⟨(some 5), .assign (.tmp (42 : Nat)), none⟩]
def K2_RangecoderAnyBytes_r10 : List SO := [⟨(some 43), .binOp .add 3 (.tmp (34 : Nat)) (.const (.int .i64 1)) 3, none⟩,
  ⟨(some 34), .move (.tmp (43 : Nat)), none⟩]
def K2_RangecoderAnyBytes_r11 : List SO := [⟨(some 45), .move (.tmp (0 : Nat)), none⟩,
  ⟨(some 46), .move (.tmp (5 : Nat)), none⟩,
  ⟨(some 47), .call ⟨(.value (.func (32 : Nat))), #[(.const (.int .i64 7)), (.tmp (45 : Nat)), (.tmp (46 : Nat))], #[3, 57, 22]⟩, none⟩,
  ⟨(some 44), .move (.tmp (47 : Nat)), none⟩,
  ⟨(some 48), .extract (.tmp (44 : Nat)) 0, none⟩,
  ⟨(some 49), .extract (.tmp (44 : Nat)) 1, none⟩,
  ⟨(some 8), .assign (.tmp (48 : Nat)), none⟩,
  ⟨(some 9), .assign (.tmp (49 : Nat)), none⟩]
def K2_RangecoderAnyBytes_r12 : List SO := [⟨(some 51), .move (.tmp (0 : Nat)), none⟩,
  ⟨(some 52), .call ⟨(.value (.func (37 : Nat))), #[(.tmp (51 : Nat)), (.const (.int .i64 7))], #[57, 3]⟩, none⟩,
  ⟨(some 50), .move (.tmp (52 : Nat)), none⟩,
  ⟨(some 53), .extract (.tmp (50 : Nat)) 0, none⟩,
  ⟨(some 54), .extract (.tmp (50 : Nat)) 1, none⟩,
  ⟨(some 10), .assign (.tmp (53 : Nat)), none⟩,
  ⟨(some 11), .assign (.tmp (54 : Nat)), none⟩]
def K2_RangecoderAnyBytes_r13 : List SO := [⟨(some 55), .move (.tmp (9 : Nat)), none⟩,
  ⟨(some 56), .binOp .neq 26 (.tmp (55 : Nat)) (.const (.int .i64 0)) 26, none⟩,
  ⟨(some 57), .move (.tmp (56 : Nat)), none⟩,
  ⟨(some 58), .move (.tmp (11 : Nat)), (some (57, false))⟩,
  ⟨(some 59), .binOp .neq 26 (.tmp (58 : Nat)) (.const (.int .i64 0)) 26, (some (57, false))⟩,
  ⟨(some 60), .pick (.tmp (57 : Nat)) (.const (.bool true)) (.tmp (59 : Nat)), none⟩,
  ⟨(some 61), .move (.tmp (60 : Nat)), none⟩,
  ⟨(some 62), .move (.tmp (10 : Nat)), (some (61, false))⟩,
  ⟨(some 63), .binOp .eql 70 (.tmp (62 : Nat)) (.const (.pointer none)) 70, (some (61, false))⟩,
  ⟨(some 64), .pick (.tmp (61 : Nat)) (.const (.bool true)) (.tmp (63 : Nat)), none⟩,
  ⟨(some 65), .move (.tmp (64 : Nat)), none⟩,
  ⟨(some 66), .move (.tmp (8 : Nat)), (some (65, false))⟩,
  ⟨(some 67), .call ⟨(.builtin .len), #[(.tmp (66 : Nat))], #[22]⟩, (some (65, false))⟩,
  ⟨(some 68), .move (.tmp (5 : Nat)), (some (65, false))⟩,
  ⟨(some 69), .call ⟨(.builtin .len), #[(.tmp (68 : Nat))], #[22]⟩, (some (65, false))⟩,
  ⟨(some 70), .binOp .neq 3 (.tmp (67 : Nat)) (.tmp (69 : Nat)) 3, (some (65, false))⟩,
  ⟨(some 71), .pick (.tmp (65 : Nat)) (.const (.bool true)) (.tmp (70 : Nat)), none⟩]
def K2_RangecoderAnyBytes_r14 : List SO := [⟨(some 4), .assign (.const (.bool false)), none⟩]
def K2_RangecoderAnyBytes_r15 : List SO := [⟨(some 72), .move (.tmp (5 : Nat)), none⟩,
  ⟨(some 73), .call ⟨(.builtin .len), #[(.tmp (72 : Nat))], #[22]⟩, none⟩,
  ⟨(some 74), .move (.const (.int .i64 0)), none⟩]
def K2_RangecoderAnyBytes_r16 : List SO := [⟨(some 75), .binOp .lss 3 (.tmp (74 : Nat)) (.tmp (73 : Nat)) 3, none⟩]
def K2_RangecoderAnyBytes_r17 : List SO := [⟨(some 76), .move (.tmp (74 : Nat)), none⟩,
  ⟨(some 77), .indexAddr 22 (.tmp (72 : Nat)) (.tmp (74 : Nat)), none⟩,
  ⟨(some 78), .load 3 (.tmp (77 : Nat)), none⟩,
  ⟨(some 12), .assign (.tmp (76 : Nat)), none⟩,
  ⟨(some 13), .assign (.tmp (78 : Nat)), none⟩]
def K2_RangecoderAnyBytes_r18 : List SO := [⟨(some 80), .move (.tmp (10 : Nat)), none⟩,
  ⟨(some 81), .move (.tmp (13 : Nat)), none⟩,
  ⟨(some 82), .call ⟨(.value (.func (38 : Nat))), #[(.tmp (80 : Nat)), (.tmp (81 : Nat))], #[70, 3]⟩, none⟩,
  ⟨(some 79), .move (.tmp (82 : Nat)), none⟩,
  ⟨(some 83), .extract (.tmp (79 : Nat)) 0, none⟩,
  ⟨(some 84), .extract (.tmp (79 : Nat)) 1, none⟩,
  ⟨(some 14), .assign (.tmp (83 : Nat)), none⟩,
  ⟨(some 15), .assign (.tmp (84 : Nat)), none⟩]
def K2_RangecoderAnyBytes_r19 : List SO := [⟨(some 85), .move (.tmp (15 : Nat)), none⟩,
  ⟨(some 86), .binOp .neq 26 (.tmp (85 : Nat)) (.const (.int .i64 0)) 26, none⟩,
  ⟨(some 87), .move (.tmp (86 : Nat)), none⟩,
  ⟨(some 88), .move (.tmp (14 : Nat)), (some (87, false))⟩,
  ⟨(some 89), .move (.tmp (8 : Nat)), (some (87, false))⟩,
  ⟨(some 90), .move (.tmp (12 : Nat)), (some (87, false))⟩,
  ⟨(some 91), .indexAddr 22 (.tmp (89 : Nat)) (.tmp (90 : Nat)), (some (87, false))⟩,
  ⟨(some 92), .load 3 (.tmp (91 : Nat)), (some (87, false))⟩,
  ⟨(some 93), .binOp .neq 3 (.tmp (88 : Nat)) (.tmp (92 : Nat)) 3, (some (87, false))⟩,
  ⟨(some 94), .pick (.tmp (87 : Nat)) (.const (.bool true)) (.tmp (93 : Nat)), none⟩,
  ⟨(some 95), .move (.tmp (94 : Nat)), none⟩,
  ⟨(some 96), .move (.tmp (14 : Nat)), (some (95, false))⟩,
  ⟨(some 97), .binOp .neq 3 (.tmp (96 : Nat)) (.const (.int .i64 0)) 3, (some (95, false))⟩,
  ⟨(some 98), .move (.tmp (97 : Nat)), (some (95, false))⟩,
  ⟨(some 99), .move (.tmp (14 : Nat)), (some (98, true))⟩,
  ⟨(some 100), .binOp .neq 3 (.tmp (99 : Nat)) (.const (.int .i64 1)) 3, (some (98, true))⟩,
  ⟨(some 101), .pick (.tmp (98 : Nat)) (.tmp (100 : Nat)) (.const (.bool false)), (some (95, false))⟩,
  ⟨(some 102), .pick (.tmp (95 : Nat)) (.const (.bool true)) (.tmp (101 : Nat)), none⟩]
def K2_RangecoderAnyBytes_r20 : List SO := [⟨(some 4), .assign (.const (.bool false)), none⟩]
def K2_RangecoderAnyBytes_r21 : List SO := [⟨(some 103), .binOp .add 3 (.tmp (74 : Nat)) (.const (.int .i64 1)) 3, none⟩,
  ⟨(some 74), .move (.tmp (103 : Nat)), none⟩]
def K2_RangecoderAnyBytes_r22 : List SO := [⟨(some 105), .move (.tmp (10 : Nat)), none⟩,
  ⟨(some 106), .call ⟨(.value (.func (38 : Nat))), #[(.tmp (105 : Nat)), (.const (.int .i64 7))], #[70, 3]⟩, none⟩,
  ⟨(some 104), .move (.tmp (106 : Nat)), none⟩,
  ⟨(some 107), .extract (.tmp (104 : Nat)) 0, none⟩,
  ⟨(some 108), .extract (.tmp (104 : Nat)) 1, none⟩,
  ⟨(some 16), .assign (.tmp (107 : Nat)), none⟩,
  ⟨(some 17), .assign (.tmp (108 : Nat)), none⟩]
def K2_RangecoderAnyBytes_r23 : List SO := [⟨(some 109), .move (.tmp (17 : Nat)), none⟩,
  ⟨(some 110), .binOp .neq 26 (.tmp (109 : Nat)) (.const (.int .i64 3)) 26, none⟩]
def K2_RangecoderAnyBytes_r24 : List SO := [⟨(some 4), .assign (.const (.bool false)), none⟩]
def K2_RangecoderAnyBytes_r25 : List SO := [⟨(some 112), .move (.tmp (5 : Nat)), none⟩,
  ⟨(some 113), .move (.tmp (8 : Nat)), none⟩,
  ⟨(some 114), .call ⟨(.value (.func (31 : Nat))), #[(.const (.int .i64 7)), (.tmp (112 : Nat)), (.tmp (113 : Nat))], #[3, 22, 22]⟩, none⟩,
  ⟨(some 111), .move (.tmp (114 : Nat)), none⟩,
  ⟨(some 115), .extract (.tmp (111 : Nat)) 0, none⟩,
  ⟨(some 116), .extract (.tmp (111 : Nat)) 1, none⟩,
  ⟨(some 18), .assign (.tmp (115 : Nat)), none⟩,
  ⟨(some 19), .assign (.tmp (116 : Nat)), none⟩]
def K2_RangecoderAnyBytes_r26 : List SO := [⟨(some 118), .move (.tmp (18 : Nat)), none⟩,
  ⟨(some 119), .move (.tmp (5 : Nat)), none⟩,
  ⟨(some 120), .call ⟨(.value (.func (32 : Nat))), #[(.const (.int .i64 7)), (.tmp (118 : Nat)), (.tmp (119 : Nat))], #[3, 57, 22]⟩, none⟩,
  ⟨(some 117), .move (.tmp (120 : Nat)), none⟩,
  ⟨(some 121), .extract (.tmp (117 : Nat)) 0, none⟩,
  ⟨(some 122), .extract (.tmp (117 : Nat)) 1, none⟩,
  ⟨(some 20), .assign (.tmp (121 : Nat)), none⟩,
  ⟨(some 21), .assign (.tmp (122 : Nat)), none⟩]
def K2_RangecoderAnyBytes_r27 : List SO := [⟨(some 123), .move (.tmp (19 : Nat)), none⟩,
  ⟨(some 124), .binOp .eql 26 (.tmp (123 : Nat)) (.const (.int .i64 0)) 26, none⟩,
  ⟨(some 125), .move (.tmp (124 : Nat)), none⟩,
  ⟨(some 126), .move (.tmp (21 : Nat)), (some (125, true))⟩,
  ⟨(some 127), .binOp .eql 26 (.tmp (126 : Nat)) (.const (.int .i64 0)) 26, (some (125, true))⟩,
  ⟨(some 128), .pick (.tmp (125 : Nat)) (.tmp (127 : Nat)) (.const (.bool false)), none⟩,
  ⟨(some 129), .move (.tmp (128 : Nat)), none⟩,
  ⟨(some 130), .move (.tmp (20 : Nat)), (some (129, true))⟩,
  ⟨(some 131), .move (.tmp (8 : Nat)), (some (129, true))⟩,
  ⟨(some 132), .call ⟨(.value (.func (23 : Nat))), #[(.tmp (130 : Nat)), (.tmp (131 : Nat))], #[22, 22]⟩, (some (129, true))⟩,
  ⟨(some 133), .pick (.tmp (129 : Nat)) (.tmp (132 : Nat)) (.const (.bool false)), none⟩,
  ⟨(some 4), .assign (.tmp (133 : Nat)), none⟩]
def K2_RangecoderAnyBytes_c : SF := ⟨134, (.seq (.reg K2_RangecoderAnyBytes_r0)
  (.seq (.seq (.reg K2_RangecoderAnyBytes_r1)
  (.cond (.tmp (23 : Nat)) (.seq (.reg K2_RangecoderAnyBytes_r2)
  .ret) .skip))
  (.seq (.seq (.reg K2_RangecoderAnyBytes_r3)
  (.cond (.tmp (31 : Nat)) (.seq (.reg K2_RangecoderAnyBytes_r4)
  .ret) .skip))
  (.seq (.reg K2_RangecoderAnyBytes_r5)
  (.seq (.seq (.reg K2_RangecoderAnyBytes_r6)
  (.block 0 (.loop (.seq (.reg K2_RangecoderAnyBytes_r7)
  (.seq (.cond (.tmp (35 : Nat)) .skip (.exit 0))
  (.seq (.block 1 (.seq (.reg K2_RangecoderAnyBytes_r8)
  (.reg K2_RangecoderAnyBytes_r9)))
  (.reg K2_RangecoderAnyBytes_r10)))))))
  (.seq (.reg K2_RangecoderAnyBytes_r11)
  (.seq (.reg K2_RangecoderAnyBytes_r12)
  (.seq (.seq (.reg K2_RangecoderAnyBytes_r13)
  (.cond (.tmp (71 : Nat)) (.seq (.reg K2_RangecoderAnyBytes_r14)
  .ret) .skip))
  (.seq (.seq (.reg K2_RangecoderAnyBytes_r15)
  (.block 2 (.loop (.seq (.reg K2_RangecoderAnyBytes_r16)
  (.seq (.cond (.tmp (75 : Nat)) .skip (.exit 2))
  (.seq (.block 3 (.seq (.reg K2_RangecoderAnyBytes_r17)
  (.seq (.reg K2_RangecoderAnyBytes_r18)
  (.seq (.reg K2_RangecoderAnyBytes_r19)
  (.cond (.tmp (102 : Nat)) (.seq (.reg K2_RangecoderAnyBytes_r20)
  .ret) .skip)))))
  (.reg K2_RangecoderAnyBytes_r21)))))))
  (.seq (.seq (.reg K2_RangecoderAnyBytes_r22)
  (.seq (.reg K2_RangecoderAnyBytes_r23)
  (.cond (.tmp (110 : Nat)) (.seq (.reg K2_RangecoderAnyBytes_r24)
  .ret) .skip)))
  (.seq (.reg K2_RangecoderAnyBytes_r25)
  (.seq (.reg K2_RangecoderAnyBytes_r26)
  (.seq (.reg K2_RangecoderAnyBytes_r27)
  .ret))))))))))))), [.tmp 4]⟩
theorem K2_RangecoderAnyBytes_s : slimF Try.prog 10 = some K2_RangecoderAnyBytes_c := by kernel_rfl
abbrev K2_RangecoderAnyBytes_f : Nat := 10

end Go.Proofs.Ythnfbdihihhoiaa
