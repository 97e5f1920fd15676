/- Printed by program (gen.lean): the functions' code in few words, the tables of types and elements; the kernel checks each against the translation. -/
import Derived.Test.YthmjeeamomfifaaRows
import Derived.Test.YthmjeeamomfifaaLiteTM
namespace Go.Proofs.Ythmjeeamomfifaa
open Go Go.Lite
set_option linter.unusedVariables false

-- element 0: Int × Int
-- element 1: Int
@[reducible] def A (e : Nat) : Type := match e with
  | 0 => Int × Int
  | 1 => Int
  | _ => Unit
def eSz (e : Nat) : Nat := match e with
  | 0 => 2
  | 1 => 1
  | _ => 1
def eD (e : Nat) : A e := match e with
  | 0 => ((0 : Int), (0 : Int))
  | 1 => (0 : Int)
  | _ + 2 => ()
def encL0 (x : Int × Int) : List LV := [.int .i64 (x.1), .int .i64 (x.2)]
def enc0 (x : Int × Int) : List (TV A) := [.int .i64 (x.1), .int .i64 (x.2)]
def dec0 (cs : List (TV A)) : Option (Int × Int) := match cs with
  | [.int .i64 x0, .int .i64 x1] => some (x0, x1)
  | _ => none
def encL1 (x : Int) : List LV := [.int .i64 (x)]
def enc1 (x : Int) : List (TV A) := [.int .i64 (x)]
def dec1 (cs : List (TV A)) : Option (Int) := match cs with
  | [.int .i64 x0] => some x0
  | _ => none
def eEncL (e : Nat) (a : A e) : List LV := match e, a with
  | 0, a => encL0 a
  | 1, a => encL1 a
  | _ + 2, _ => [.nilp]
def eEnc (e : Nat) (a : A e) : List (TV A) := match e, a with
  | 0, a => enc0 a
  | 1, a => enc1 a
  | _ + 2, _ => [.nilp]
def eDec (e : Nat) (cs : List (TV A)) : Option (A e) := match e with
  | 0 => dec0 cs
  | 1 => dec1 cs
  | _ + 2 => none
def eEl (t : Nat) : Option Nat := match t with
  | 32 => some 0
  | 22 => some 1
  | 101 => some 0
  | _ => none
def fl (e : Nat) : Bool := match e with
  | 0 => true
  | 1 => true
  | _ => false
def R : Reg A := ⟨eSz, eD, eEncL, eEnc, eDec, eEl⟩
theorem R_ok : R.Ok where
  pos e := by show 0 < eSz e; unfold eSz; split <;> decide
  len e a := match e, a with
    | 0, a => rfl
    | 1, a => rfl
    | e + 2, a => rfl
  ok e a := match e, a with
    | 0, a => rfl
    | 1, a => rfl
    | e + 2, a => rfl
  dec e cs a h := match e, a, h with
    | 0, a, h => by
      replace h : dec0 cs = some a := h
      unfold dec0 at h
      split at h
      · cases h; rfl
      · cases h
    | 1, a, h => by
      replace h : dec1 cs = some a := h
      unfold dec1 at h
      split at h
      · cases h; rfl
      · cases h
    | e + 2, a, h => by cases h
  free e a := match e, a with
    | 0, a => rfl
    | 1, a => rfl
    | e + 2, a => rfl
  sol e a := match e, a with
    | 0, a => rfl
    | 1, a => rfl
    | e + 2, a => rfl
theorem fl_ok : ∀ e, fl e = true → ∀ a, psfreeL (R.encL e a) = true := fun e h a => match e, h, a with
  | 0, h, a => rfl
  | 1, h, a => rfl
  | e + 2, h, a => rfl

def tyL : List (Nat × TI) := [(0, ⟨.other, 1, false, [.dead]⟩),
  (34, ⟨.struct [(0, 1, false)], 1, true, [.nils]⟩),
  (3, ⟨.int .i64, 1, false, [.int .i64 0]⟩),
  (24, ⟨.int .i64, 1, false, [.int .i64 0]⟩),
  (65, ⟨.struct [(0, 1, false), (1, 1, false)], 2, true, [.int .i64 0, .int .i64 0]⟩),
  (32, ⟨.slice 2 16 [.int .i64 0, .int .i64 0], 1, false, [.nils]⟩),
  (22, ⟨.slice 1 8 [.int .i64 0], 1, false, [.nils]⟩),
  (103, ⟨.struct [(0, 1, false), (1, 1, false)], 2, true, [.int .i64 0, .int .i64 0]⟩),
  (101, ⟨.slice 2 16 [.int .i64 0, .int .i64 0], 1, false, [.nils]⟩)]
theorem tyL_ok : okL (tiOf Try.prog) tyL := ⟨by kernel_rfl, by kernel_rfl, by kernel_rfl, by kernel_rfl, by kernel_rfl, by kernel_rfl, by kernel_rfl, by kernel_rfl, by kernel_rfl, trivial⟩
def eqL : List (Nat × List Nat) := [(65, [0, 0])]
theorem eqL_ok : okL (eqOf Try.prog) eqL := ⟨by kernel_rfl, trivial⟩
def nlL : List (Nat × Nat) := [(24, 0), (3, 0), (65, 0)]
theorem nlL_ok : okN (nilOf Try.prog) nlL := ⟨by kernel_rfl, by kernel_rfl, by kernel_rfl, trivial⟩
noncomputable def ty : TT := ⟨lookT tyL (tiOf Try.prog), lookT eqL (eqOf Try.prog), lookN nlL (nilOf Try.prog)⟩
theorem ty_ok : ty = ttOf Try.prog := by
  unfold ty ttOf
  rw [lookT_eq tyL_ok, lookT_eq eqL_ok, lookN_eq nlL_ok]
theorem env : Env A R Try.prog ty fl := ⟨R_ok, ty_ok, fl_ok, by kernel_rfl⟩

/-- printworks/printworkskeep2.CurveGalois -/
def K2_CurveGalois_r0 : List SO := [⟨(some 2), .box 34 (.tmp (0 : Nat)), none⟩,
  ⟨(some 4), .assign (.const (.bool false)), none⟩]
def K2_CurveGalois_r1 : List SO := [⟨(some 9), .call ⟨(.value (.func (21 : Nat))), #[], #[]⟩, none⟩,
  ⟨(some 10), .unOp .not 4 (.tmp (9 : Nat)), none⟩]
def K2_CurveGalois_r2 : List SO := [⟨(some 4), .assign (.const (.bool false)), none⟩]
def K2_CurveGalois_r3 : List SO := [⟨(some 12), .load 34 (.tmp (2 : Nat)), none⟩,
  ⟨(some 13), .move (.tmp (1 : Nat)), none⟩,
  ⟨(some 14), .call ⟨(.value (.func (22 : Nat))), #[(.tmp (12 : Nat)), (.tmp (13 : Nat))], #[34, 3]⟩, none⟩,
  ⟨(some 11), .move (.tmp (14 : Nat)), none⟩,
  ⟨(some 15), .extract (.tmp (11 : Nat)) 0, none⟩,
  ⟨(some 16), .extract (.tmp (11 : Nat)) 1, none⟩,
  ⟨(some 5), .assign (.tmp (15 : Nat)), none⟩,
  ⟨(some 6), .assign (.tmp (16 : Nat)), none⟩]
def K2_CurveGalois_r4 : List SO := [⟨(some 17), .move (.tmp (6 : Nat)), none⟩,
  ⟨(some 18), .binOp .neq 24 (.tmp (17 : Nat)) (.const (.int .i64 0)) 24, none⟩]
def K2_CurveGalois_r5 : List SO := [⟨(some 19), .move (.tmp (5 : Nat)), none⟩,
  ⟨(some 20), .binOp .eql 3 (.tmp (19 : Nat)) (.const (.int .i64 0)) 3, none⟩,
  ⟨(some 4), .assign (.tmp (20 : Nat)), none⟩]
def K2_CurveGalois_r6 : List SO := [⟨(some 22), .load 34 (.tmp (2 : Nat)), none⟩,
  ⟨(some 23), .move (.tmp (5 : Nat)), none⟩,
  ⟨(some 24), .call ⟨(.value (.func (23 : Nat))), #[(.tmp (22 : Nat)), (.tmp (23 : Nat))], #[34, 3]⟩, none⟩,
  ⟨(some 21), .move (.tmp (24 : Nat)), none⟩,
  ⟨(some 25), .extract (.tmp (21 : Nat)) 0, none⟩,
  ⟨(some 26), .extract (.tmp (21 : Nat)) 1, none⟩,
  ⟨(some 7), .assign (.tmp (25 : Nat)), none⟩,
  ⟨(some 8), .assign (.tmp (26 : Nat)), none⟩]
def K2_CurveGalois_r7 : List SO := [⟨(some 27), .move (.tmp (8 : Nat)), none⟩,
  ⟨(some 28), .binOp .neq 24 (.tmp (27 : Nat)) (.const (.int .i64 0)) 24, none⟩,
  ⟨(some 29), .move (.tmp (28 : Nat)), none⟩,
  ⟨(some 30), .move (.tmp (7 : Nat)), (some (29, false))⟩,
  ⟨(some 31), .move (.tmp (1 : Nat)), (some (29, false))⟩,
  ⟨(some 32), .binOp .lss 3 (.tmp (30 : Nat)) (.tmp (31 : Nat)) 3, (some (29, false))⟩,
  ⟨(some 33), .pick (.tmp (29 : Nat)) (.const (.bool true)) (.tmp (32 : Nat)), none⟩]
def K2_CurveGalois_r8 : List SO := [⟨(some 4), .assign (.const (.bool false)), none⟩]
def K2_CurveGalois_r9 : List SO := [⟨(some 34), .move (.tmp (5 : Nat)), none⟩,
  ⟨(some 35), .binOp .eql 3 (.tmp (34 : Nat)) (.const (.int .i64 0)) 3, none⟩]
def K2_CurveGalois_r10 : List SO := [⟨(some 4), .assign (.const (.bool true)), none⟩]
def K2_CurveGalois_r11 : List SO := [⟨(some 37), .load 34 (.tmp (2 : Nat)), none⟩,
  ⟨(some 38), .move (.tmp (5 : Nat)), none⟩,
  ⟨(some 39), .binOp .sub 3 (.tmp (38 : Nat)) (.const (.int .i64 1)) 3, none⟩,
  ⟨(some 40), .call ⟨(.value (.func (23 : Nat))), #[(.tmp (37 : Nat)), (.tmp (39 : Nat))], #[34, 3]⟩, none⟩,
  ⟨(some 36), .move (.tmp (40 : Nat)), none⟩,
  ⟨(some 41), .extract (.tmp (36 : Nat)) 0, none⟩,
  ⟨(some 42), .extract (.tmp (36 : Nat)) 1, none⟩,
  ⟨(some 7), .assign (.tmp (41 : Nat)), none⟩,
  ⟨(some 8), .assign (.tmp (42 : Nat)), none⟩]
def K2_CurveGalois_r12 : List SO := [⟨(some 43), .move (.tmp (8 : Nat)), none⟩,
  ⟨(some 44), .binOp .eql 24 (.tmp (43 : Nat)) (.const (.int .i64 0)) 24, none⟩,
  ⟨(some 45), .move (.tmp (44 : Nat)), none⟩,
  ⟨(some 46), .move (.tmp (7 : Nat)), (some (45, true))⟩,
  ⟨(some 47), .move (.tmp (1 : Nat)), (some (45, true))⟩,
  ⟨(some 48), .binOp .lss 3 (.tmp (46 : Nat)) (.tmp (47 : Nat)) 3, (some (45, true))⟩,
  ⟨(some 49), .pick (.tmp (45 : Nat)) (.tmp (48 : Nat)) (.const (.bool false)), none⟩,
  ⟨(some 4), .assign (.tmp (49 : Nat)), none⟩]
def K2_CurveGalois_c : SF := ⟨50, (.seq (.reg K2_CurveGalois_r0)
  (.seq (.seq (.reg K2_CurveGalois_r1)
  (.cond (.tmp (10 : Nat)) (.seq (.reg K2_CurveGalois_r2)
  .ret) .skip))
  (.seq (.reg K2_CurveGalois_r3)
  (.seq (.seq (.reg K2_CurveGalois_r4)
  (.cond (.tmp (18 : Nat)) (.seq (.reg K2_CurveGalois_r5)
  .ret) .skip))
  (.seq (.reg K2_CurveGalois_r6)
  (.seq (.seq (.reg K2_CurveGalois_r7)
  (.cond (.tmp (33 : Nat)) (.seq (.reg K2_CurveGalois_r8)
  .ret) .skip))
  (.seq (.seq (.reg K2_CurveGalois_r9)
  (.cond (.tmp (35 : Nat)) (.seq (.reg K2_CurveGalois_r10)
  .ret) .skip))
  (.seq (.reg K2_CurveGalois_r11)
  (.seq (.reg K2_CurveGalois_r12)
  .ret))))))))), [.tmp 4]⟩
theorem K2_CurveGalois_s : slimF Try.prog 5 = some K2_CurveGalois_c := by kernel_rfl
abbrev K2_CurveGalois_f : Nat := 5
/-- printworks/printworkskeep2.CurveMonotone -/
def K2_CurveMonotone_r0 : List SO := [⟨(some 3), .box 34 (.tmp (0 : Nat)), none⟩,
  ⟨(some 6), .assign (.const (.bool false)), none⟩]
def K2_CurveMonotone_r1 : List SO := [⟨(some 11), .call ⟨(.value (.func (21 : Nat))), #[], #[]⟩, none⟩,
  ⟨(some 12), .unOp .not 4 (.tmp (11 : Nat)), none⟩]
def K2_CurveMonotone_r2 : List SO := [⟨(some 6), .assign (.const (.bool false)), none⟩]
def K2_CurveMonotone_r3 : List SO := [⟨(some 14), .load 34 (.tmp (3 : Nat)), none⟩,
  ⟨(some 15), .move (.tmp (1 : Nat)), none⟩,
  ⟨(some 16), .move (.tmp (2 : Nat)), none⟩,
  ⟨(some 17), .call ⟨(.builtin .min), #[(.tmp (15 : Nat)), (.tmp (16 : Nat))], #[3, 3]⟩, none⟩,
  ⟨(some 18), .call ⟨(.value (.func (23 : Nat))), #[(.tmp (14 : Nat)), (.tmp (17 : Nat))], #[34, 3]⟩, none⟩,
  ⟨(some 13), .move (.tmp (18 : Nat)), none⟩,
  ⟨(some 19), .extract (.tmp (13 : Nat)) 0, none⟩,
  ⟨(some 20), .extract (.tmp (13 : Nat)) 1, none⟩,
  ⟨(some 7), .assign (.tmp (19 : Nat)), none⟩,
  ⟨(some 8), .assign (.tmp (20 : Nat)), none⟩]
def K2_CurveMonotone_r4 : List SO := [⟨(some 22), .load 34 (.tmp (3 : Nat)), none⟩,
  ⟨(some 23), .move (.tmp (1 : Nat)), none⟩,
  ⟨(some 24), .move (.tmp (2 : Nat)), none⟩,
  ⟨(some 25), .call ⟨(.builtin .max), #[(.tmp (23 : Nat)), (.tmp (24 : Nat))], #[3, 3]⟩, none⟩,
  ⟨(some 26), .call ⟨(.value (.func (23 : Nat))), #[(.tmp (22 : Nat)), (.tmp (25 : Nat))], #[34, 3]⟩, none⟩,
  ⟨(some 21), .move (.tmp (26 : Nat)), none⟩,
  ⟨(some 27), .extract (.tmp (21 : Nat)) 0, none⟩,
  ⟨(some 28), .extract (.tmp (21 : Nat)) 1, none⟩,
  ⟨(some 9), .assign (.tmp (27 : Nat)), none⟩,
  ⟨(some 10), .assign (.tmp (28 : Nat)), none⟩]
def K2_CurveMonotone_r5 : List SO := [⟨(some 29), .move (.tmp (8 : Nat)), none⟩,
  ⟨(some 30), .binOp .neq 24 (.tmp (29 : Nat)) (.const (.int .i64 0)) 24, none⟩,
  ⟨(some 31), .move (.tmp (30 : Nat)), none⟩,
  ⟨(some 32), .move (.tmp (10 : Nat)), (some (31, false))⟩,
  ⟨(some 33), .binOp .neq 24 (.tmp (32 : Nat)) (.const (.int .i64 0)) 24, (some (31, false))⟩,
  ⟨(some 34), .pick (.tmp (31 : Nat)) (.const (.bool true)) (.tmp (33 : Nat)), none⟩]
def K2_CurveMonotone_r6 : List SO := [⟨(some 35), .move (.tmp (8 : Nat)), none⟩,
  ⟨(some 36), .move (.tmp (10 : Nat)), none⟩,
  ⟨(some 37), .binOp .eql 24 (.tmp (35 : Nat)) (.tmp (36 : Nat)) 24, none⟩,
  ⟨(some 38), .move (.tmp (37 : Nat)), none⟩,
  ⟨(some 39), .move (.tmp (1 : Nat)), (some (38, false))⟩,
  ⟨(some 40), .move (.tmp (2 : Nat)), (some (38, false))⟩,
  ⟨(some 41), .binOp .neq 3 (.tmp (39 : Nat)) (.tmp (40 : Nat)) 3, (some (38, false))⟩,
  ⟨(some 42), .pick (.tmp (38 : Nat)) (.const (.bool true)) (.tmp (41 : Nat)), none⟩,
  ⟨(some 6), .assign (.tmp (42 : Nat)), none⟩]
def K2_CurveMonotone_r7 : List SO := [⟨(some 43), .move (.tmp (7 : Nat)), none⟩,
  ⟨(some 44), .binOp .leq 3 (.const (.int .i64 0)) (.tmp (43 : Nat)) 3, none⟩,
  ⟨(some 45), .move (.tmp (44 : Nat)), none⟩,
  ⟨(some 46), .move (.tmp (7 : Nat)), (some (45, true))⟩,
  ⟨(some 47), .move (.tmp (9 : Nat)), (some (45, true))⟩,
  ⟨(some 48), .binOp .leq 3 (.tmp (46 : Nat)) (.tmp (47 : Nat)) 3, (some (45, true))⟩,
  ⟨(some 49), .pick (.tmp (45 : Nat)) (.tmp (48 : Nat)) (.const (.bool false)), none⟩,
  ⟨(some 50), .move (.tmp (49 : Nat)), none⟩,
  ⟨(some 51), .move (.tmp (9 : Nat)), (some (50, true))⟩,
  ⟨(some 52), .binOp .leq 3 (.tmp (51 : Nat)) (.const (.int .i64 65280)) 3, (some (50, true))⟩,
  ⟨(some 53), .pick (.tmp (50 : Nat)) (.tmp (52 : Nat)) (.const (.bool false)), none⟩,
  ⟨(some 6), .assign (.tmp (53 : Nat)), none⟩]
def K2_CurveMonotone_c : SF := ⟨54, (.seq (.reg K2_CurveMonotone_r0)
  (.seq (.seq (.reg K2_CurveMonotone_r1)
  (.cond (.tmp (12 : Nat)) (.seq (.reg K2_CurveMonotone_r2)
  .ret) .skip))
  (.seq (.reg K2_CurveMonotone_r3)
  (.seq (.reg K2_CurveMonotone_r4)
  (.seq (.seq (.reg K2_CurveMonotone_r5)
  (.cond (.tmp (34 : Nat)) (.seq (.reg K2_CurveMonotone_r6)
  .ret) .skip))
  (.seq (.reg K2_CurveMonotone_r7)
  .ret)))))), [.tmp 6]⟩
theorem K2_CurveMonotone_s : slimF Try.prog 6 = some K2_CurveMonotone_c := by kernel_rfl
abbrev K2_CurveMonotone_f : Nat := 6
/-- printworks/printworkskeep2.curveWorks -/
def K2_curveWorks_r0 : List SO := [⟨(some 0), .assign (.const (.bool false)), none⟩]
def K2_curveWorks_r1 : List SO := [⟨(some 10), .call ⟨(.value (.func (48 : Nat))), #[], #[]⟩, none⟩,
  ⟨(some 11), .call ⟨(.value (.func (23 : Nat))), #[(.tmp (10 : Nat)), (.const (.int .i64 48960))], #[34, 3]⟩, none⟩,
  ⟨(some 9), .move (.tmp (11 : Nat)), none⟩,
  ⟨(some 12), .extract (.tmp (9 : Nat)) 0, none⟩,
  ⟨(some 13), .extract (.tmp (9 : Nat)) 1, none⟩,
  ⟨(some 1), .assign (.tmp (12 : Nat)), none⟩,
  ⟨(some 2), .assign (.tmp (13 : Nat)), none⟩]
def K2_curveWorks_r2 : List SO := [⟨(some 15), .call ⟨(.value (.func (48 : Nat))), #[], #[]⟩, none⟩,
  ⟨(some 16), .call ⟨(.value (.func (22 : Nat))), #[(.tmp (15 : Nat)), (.const (.int .i64 16321))], #[34, 3]⟩, none⟩,
  ⟨(some 14), .move (.tmp (16 : Nat)), none⟩,
  ⟨(some 17), .extract (.tmp (14 : Nat)) 0, none⟩,
  ⟨(some 18), .extract (.tmp (14 : Nat)) 1, none⟩,
  ⟨(some 3), .assign (.tmp (17 : Nat)), none⟩,
  ⟨(some 4), .assign (.tmp (18 : Nat)), none⟩]
def K2_curveWorks_r3 : List SO := [⟨(some 20), .call ⟨(.value (.func (48 : Nat))), #[], #[]⟩, none⟩,
  ⟨(some 21), .call ⟨(.value (.func (49 : Nat))), #[(.tmp (20 : Nat))], #[34]⟩, none⟩,
  ⟨(some 19), .move (.tmp (21 : Nat)), none⟩,
  ⟨(some 22), .extract (.tmp (19 : Nat)) 0, none⟩,
  ⟨(some 23), .extract (.tmp (19 : Nat)) 1, none⟩,
  ⟨(some 5), .assign (.tmp (22 : Nat)), none⟩,
  ⟨(some 6), .assign (.tmp (23 : Nat)), none⟩]
def K2_curveWorks_r4 : List SO := [⟨(some 25), .build 65 #[(1, (.const (.int .i64 10)))], none⟩,
  ⟨(some 26), .build 65 #[(0, (.const (.int .i64 100))), (1, (.const (.int .i64 4)))], none⟩,
  ⟨(some 27), .build 65 #[(0, (.const (.int .i64 200))), (1, (.const (.int .i64 20)))], none⟩,
  ⟨(some 28), .buildSlice 32 3 #[(0, (.tmp (25 : Nat))), (1, (.tmp (26 : Nat))), (2, (.tmp (27 : Nat)))], none⟩,
  ⟨(some 29), .call ⟨(.value (.func (50 : Nat))), #[(.tmp (28 : Nat))], #[32]⟩, none⟩,
  ⟨(some 24), .move (.tmp (29 : Nat)), none⟩,
  ⟨(some 30), .extract (.tmp (24 : Nat)) 0, none⟩,
  ⟨(some 31), .extract (.tmp (24 : Nat)) 1, none⟩,
  ⟨(some 7), .alloc 34, none⟩,
  ⟨none, .store 34 (.tmp (7 : Nat)) (.tmp (30 : Nat)), none⟩,
  ⟨(some 8), .assign (.tmp (31 : Nat)), none⟩]
def K2_curveWorks_r5 : List SO := [⟨(some 32), .move (.tmp (2 : Nat)), none⟩,
  ⟨(some 33), .binOp .eql 24 (.tmp (32 : Nat)) (.const (.int .i64 0)) 24, none⟩,
  ⟨(some 34), .move (.tmp (33 : Nat)), none⟩,
  ⟨(some 35), .move (.tmp (1 : Nat)), (some (34, true))⟩,
  ⟨(some 36), .binOp .eql 3 (.tmp (35 : Nat)) (.const (.int .i64 40800)) 3, (some (34, true))⟩,
  ⟨(some 37), .pick (.tmp (34 : Nat)) (.tmp (36 : Nat)) (.const (.bool false)), none⟩,
  ⟨(some 38), .move (.tmp (37 : Nat)), none⟩,
  ⟨(some 39), .move (.tmp (4 : Nat)), (some (38, true))⟩,
  ⟨(some 40), .binOp .eql 24 (.tmp (39 : Nat)) (.const (.int .i64 0)) 24, (some (38, true))⟩,
  ⟨(some 41), .pick (.tmp (38 : Nat)) (.tmp (40 : Nat)) (.const (.bool false)), none⟩,
  ⟨(some 42), .move (.tmp (41 : Nat)), none⟩,
  ⟨(some 43), .move (.tmp (3 : Nat)), (some (42, true))⟩,
  ⟨(some 44), .binOp .eql 3 (.tmp (43 : Nat)) (.const (.int .i64 32641)) 3, (some (42, true))⟩,
  ⟨(some 45), .pick (.tmp (42 : Nat)) (.tmp (44 : Nat)) (.const (.bool false)), none⟩,
  ⟨(some 46), .move (.tmp (45 : Nat)), none⟩,
  ⟨(some 47), .move (.tmp (6 : Nat)), (some (46, true))⟩,
  ⟨(some 48), .binOp .eql 24 (.tmp (47 : Nat)) (.const (.int .i64 0)) 24, (some (46, true))⟩,
  ⟨(some 49), .pick (.tmp (46 : Nat)) (.tmp (48 : Nat)) (.const (.bool false)), none⟩,
  ⟨(some 50), .move (.tmp (49 : Nat)), none⟩,
  ⟨(some 51), .move (.tmp (5 : Nat)), (some (50, true))⟩,
  ⟨(some 52), .call ⟨(.builtin .len), #[(.tmp (51 : Nat))], #[22]⟩, (some (50, true))⟩,
  ⟨(some 53), .binOp .eql 3 (.tmp (52 : Nat)) (.const (.int .i64 256)) 3, (some (50, true))⟩,
  ⟨(some 54), .pick (.tmp (50 : Nat)) (.tmp (53 : Nat)) (.const (.bool false)), none⟩,
  ⟨(some 55), .move (.tmp (54 : Nat)), none⟩,
  ⟨(some 56), .move (.tmp (5 : Nat)), (some (55, true))⟩,
  ⟨(some 57), .indexAddr 22 (.tmp (56 : Nat)) (.const (.int .i64 128)), (some (55, true))⟩,
  ⟨(some 58), .load 3 (.tmp (57 : Nat)), (some (55, true))⟩,
  ⟨(some 59), .binOp .eql 3 (.tmp (58 : Nat)) (.const (.int .i64 65)) 3, (some (55, true))⟩,
  ⟨(some 60), .pick (.tmp (55 : Nat)) (.tmp (59 : Nat)) (.const (.bool false)), none⟩,
  ⟨(some 61), .move (.tmp (60 : Nat)), none⟩,
  ⟨(some 62), .move (.tmp (8 : Nat)), (some (61, true))⟩,
  ⟨(some 63), .binOp .eql 24 (.tmp (62 : Nat)) (.const (.int .i64 0)) 24, (some (61, true))⟩,
  ⟨(some 64), .pick (.tmp (61 : Nat)) (.tmp (63 : Nat)) (.const (.bool false)), none⟩,
  ⟨(some 65), .move (.tmp (64 : Nat)), none⟩,
  ⟨(some 66), .fieldAddr 34 (.tmp (7 : Nat)) 0, (some (65, true))⟩,
  ⟨(some 67), .load 32 (.tmp (66 : Nat)), (some (65, true))⟩,
  ⟨(some 68), .call ⟨(.builtin .len), #[(.tmp (67 : Nat))], #[32]⟩, (some (65, true))⟩,
  ⟨(some 69), .binOp .eql 3 (.tmp (68 : Nat)) (.const (.int .i64 4)) 3, (some (65, true))⟩,
  ⟨(some 70), .pick (.tmp (65 : Nat)) (.tmp (69 : Nat)) (.const (.bool false)), none⟩,
  ⟨(some 71), .move (.tmp (70 : Nat)), none⟩,
  ⟨(some 72), .fieldAddr 34 (.tmp (7 : Nat)) 0, (some (71, true))⟩,
  ⟨(some 73), .load 32 (.tmp (72 : Nat)), (some (71, true))⟩,
  ⟨(some 74), .indexAddr 32 (.tmp (73 : Nat)) (.const (.int .i64 1)), (some (71, true))⟩,
  ⟨(some 75), .load 65 (.tmp (74 : Nat)), (some (71, true))⟩,
  ⟨(some 76), .build 65 #[(0, (.const (.int .i64 100))), (1, (.const (.int .i64 7)))], (some (71, true))⟩,
  ⟨(some 77), .binOp .eql 65 (.tmp (75 : Nat)) (.tmp (76 : Nat)) 65, (some (71, true))⟩,
  ⟨(some 78), .pick (.tmp (71 : Nat)) (.tmp (77 : Nat)) (.const (.bool false)), none⟩,
  ⟨(some 0), .assign (.tmp (78 : Nat)), none⟩]
def K2_curveWorks_c : SF := ⟨79, (.seq (.reg K2_curveWorks_r0)
  (.seq (.reg K2_curveWorks_r1)
  (.seq (.reg K2_curveWorks_r2)
  (.seq (.reg K2_curveWorks_r3)
  (.seq (.reg K2_curveWorks_r4)
  (.seq (.reg K2_curveWorks_r5)
  .ret)))))), [.tmp 0]⟩
theorem K2_curveWorks_s : slimF Try.prog 21 = some K2_curveWorks_c := by kernel_rfl
abbrev K2_curveWorks_f : Nat := 21
/-- printworks/curve.Inverse -/
def curve_Inverse_r0 : List SO := [⟨(some 2), .box 34 (.tmp (0 : Nat)), none⟩,
  ⟨(some 4), .assign (.const (.int .i64 0)), none⟩,
  ⟨(some 5), .assign (.const (.int .i64 0)), none⟩]
def curve_Inverse_r1 : List SO := [⟨(some 7), .load 34 (.tmp (2 : Nat)), none⟩,
  ⟨(some 8), .call ⟨(.value (.func (35 : Nat))), #[(.tmp (7 : Nat))], #[34]⟩, none⟩,
  ⟨(some 6), .assign (.tmp (8 : Nat)), none⟩]
def curve_Inverse_r2 : List SO := [⟨(some 9), .move (.tmp (6 : Nat)), none⟩,
  ⟨(some 10), .binOp .neq 24 (.tmp (9 : Nat)) (.const (.int .i64 0)) 24, none⟩]
def curve_Inverse_r3 : List SO := [⟨(some 11), .move (.tmp (6 : Nat)), none⟩,
  ⟨(some 4), .assign (.const (.int .i64 0)), none⟩,
  ⟨(some 5), .assign (.tmp (11 : Nat)), none⟩]
def curve_Inverse_r4 : List SO := [⟨(some 12), .move (.tmp (1 : Nat)), none⟩,
  ⟨(some 13), .binOp .lss 3 (.tmp (12 : Nat)) (.const (.int .i64 0)) 3, none⟩,
  ⟨(some 14), .move (.tmp (13 : Nat)), none⟩,
  ⟨(some 15), .move (.tmp (1 : Nat)), (some (14, false))⟩,
  ⟨(some 16), .binOp .gtr 3 (.tmp (15 : Nat)) (.const (.int .i64 65280)) 3, (some (14, false))⟩,
  ⟨(some 17), .pick (.tmp (14 : Nat)) (.const (.bool true)) (.tmp (16 : Nat)), none⟩]
def curve_Inverse_r5 : List SO := [⟨(some 4), .assign (.const (.int .i64 0)), none⟩,
  ⟨(some 5), .assign (.const (.int .i64 3)), none⟩]
def curve_Inverse_r6 : List SO := [⟨(some 18), .fieldAddr 34 (.tmp (2 : Nat)) 0, none⟩,
  ⟨(some 19), .load 32 (.tmp (18 : Nat)), none⟩,
  ⟨(some 20), .fieldAddr 34 (.tmp (2 : Nat)) 0, none⟩,
  ⟨(some 21), .load 32 (.tmp (20 : Nat)), none⟩,
  ⟨(some 22), .call ⟨(.builtin .len), #[(.tmp (21 : Nat))], #[32]⟩, none⟩,
  ⟨(some 23), .binOp .sub 3 (.tmp (22 : Nat)) (.const (.int .i64 1)) 3, none⟩,
  ⟨(some 24), .indexAddr 32 (.tmp (19 : Nat)) (.tmp (23 : Nat)), none⟩,
  ⟨(some 25), .fieldAddr 65 (.tmp (24 : Nat)) 1, none⟩,
  ⟨(some 26), .load 3 (.tmp (25 : Nat)), none⟩,
  ⟨(some 27), .move (.tmp (1 : Nat)), none⟩,
  ⟨(some 28), .binOp .lss 3 (.tmp (26 : Nat)) (.tmp (27 : Nat)) 3, none⟩]
def curve_Inverse_r7 : List SO := [⟨(some 4), .assign (.const (.int .i64 0)), none⟩,
  ⟨(some 5), .assign (.const (.int .i64 8)), none⟩]
def curve_Inverse_r8 : List SO := [⟨(some 29), .load 34 (.tmp (2 : Nat)), none⟩,
  ⟨(some 30), .move (.tmp (1 : Nat)), none⟩,
  ⟨(some 31), .call ⟨(.value (.func (51 : Nat))), #[(.tmp (29 : Nat)), (.tmp (30 : Nat))], #[34, 3]⟩, none⟩,
  ⟨(some 4), .assign (.tmp (31 : Nat)), none⟩,
  ⟨(some 5), .assign (.const (.int .i64 0)), none⟩]
def curve_Inverse_c : SF := ⟨32, (.seq (.reg curve_Inverse_r0)
  (.seq (.seq (.reg curve_Inverse_r1)
  (.seq (.reg curve_Inverse_r2)
  (.cond (.tmp (10 : Nat)) (.seq (.reg curve_Inverse_r3)
  .ret) .skip)))
  (.seq (.seq (.reg curve_Inverse_r4)
  (.cond (.tmp (17 : Nat)) (.seq (.reg curve_Inverse_r5)
  .ret) .skip))
  (.seq (.seq (.reg curve_Inverse_r6)
  (.cond (.tmp (28 : Nat)) (.seq (.reg curve_Inverse_r7)
  .ret) .skip))
  (.seq (.reg curve_Inverse_r8)
  .ret))))), [.tmp 4, .tmp 5]⟩
theorem curve_Inverse_s : slimF Try.prog 22 = some curve_Inverse_c := by kernel_rfl
abbrev curve_Inverse_f : Nat := 22
/-- printworks/curve.At -/
def curve_At_r0 : List SO := [⟨(some 2), .box 34 (.tmp (0 : Nat)), none⟩,
  ⟨(some 4), .assign (.const (.int .i64 0)), none⟩,
  ⟨(some 5), .assign (.const (.int .i64 0)), none⟩]
def curve_At_r1 : List SO := [⟨(some 7), .load 34 (.tmp (2 : Nat)), none⟩,
  ⟨(some 8), .call ⟨(.value (.func (35 : Nat))), #[(.tmp (7 : Nat))], #[34]⟩, none⟩,
  ⟨(some 6), .assign (.tmp (8 : Nat)), none⟩]
def curve_At_r2 : List SO := [⟨(some 9), .move (.tmp (6 : Nat)), none⟩,
  ⟨(some 10), .binOp .neq 24 (.tmp (9 : Nat)) (.const (.int .i64 0)) 24, none⟩]
def curve_At_r3 : List SO := [⟨(some 11), .move (.tmp (6 : Nat)), none⟩,
  ⟨(some 4), .assign (.const (.int .i64 0)), none⟩,
  ⟨(some 5), .assign (.tmp (11 : Nat)), none⟩]
def curve_At_r4 : List SO := [⟨(some 12), .move (.tmp (1 : Nat)), none⟩,
  ⟨(some 13), .binOp .lss 3 (.tmp (12 : Nat)) (.const (.int .i64 0)) 3, none⟩,
  ⟨(some 14), .move (.tmp (13 : Nat)), none⟩,
  ⟨(some 15), .move (.tmp (1 : Nat)), (some (14, false))⟩,
  ⟨(some 16), .binOp .gtr 3 (.tmp (15 : Nat)) (.const (.int .i64 65280)) 3, (some (14, false))⟩,
  ⟨(some 17), .pick (.tmp (14 : Nat)) (.const (.bool true)) (.tmp (16 : Nat)), none⟩]
def curve_At_r5 : List SO := [⟨(some 4), .assign (.const (.int .i64 0)), none⟩,
  ⟨(some 5), .assign (.const (.int .i64 3)), none⟩]
def curve_At_r6 : List SO := [⟨(some 18), .load 34 (.tmp (2 : Nat)), none⟩,
  ⟨(some 19), .move (.tmp (1 : Nat)), none⟩,
  ⟨(some 20), .call ⟨(.value (.func (52 : Nat))), #[(.tmp (18 : Nat)), (.tmp (19 : Nat))], #[34, 3]⟩, none⟩,
  ⟨(some 4), .assign (.tmp (20 : Nat)), none⟩,
  ⟨(some 5), .assign (.const (.int .i64 0)), none⟩]
def curve_At_c : SF := ⟨21, (.seq (.reg curve_At_r0)
  (.seq (.seq (.reg curve_At_r1)
  (.seq (.reg curve_At_r2)
  (.cond (.tmp (10 : Nat)) (.seq (.reg curve_At_r3)
  .ret) .skip)))
  (.seq (.seq (.reg curve_At_r4)
  (.cond (.tmp (17 : Nat)) (.seq (.reg curve_At_r5)
  .ret) .skip))
  (.seq (.reg curve_At_r6)
  .ret)))), [.tmp 4, .tmp 5]⟩
theorem curve_At_s : slimF Try.prog 23 = some curve_At_c := by kernel_rfl
abbrev curve_At_f : Nat := 23
/-- printworks/printworkskeep2.bent -/
def K2_bent_r0 : List SO := [⟨(some 0), .alloc 34, none⟩]
def K2_bent_r1 : List SO := [⟨(some 1), .build 65 #[], none⟩,
  ⟨(some 2), .build 65 #[(0, (.const (.int .i64 32640))), (1, (.const (.int .i64 16320)))], none⟩,
  ⟨(some 3), .build 65 #[(0, (.const (.int .i64 65280))), (1, (.const (.int .i64 65280)))], none⟩,
  ⟨(some 4), .buildSlice 32 3 #[(0, (.tmp (1 : Nat))), (1, (.tmp (2 : Nat))), (2, (.tmp (3 : Nat)))], none⟩,
  ⟨(some 5), .build 34 #[(0, (.tmp (4 : Nat)))], none⟩,
  ⟨none, .store 34 (.tmp (0 : Nat)) (.tmp (5 : Nat)), none⟩]
def K2_bent_c : SF := ⟨6, (.seq (.reg K2_bent_r0)
  (.seq (.reg K2_bent_r1)
  .ret)), [.cell 0 34]⟩
theorem K2_bent_s : slimF Try.prog 48 = some K2_bent_c := by kernel_rfl
abbrev K2_bent_f : Nat := 48
/-- printworks/curve.Table -/
def curve_Table_r0 : List SO := [⟨(some 1), .box 34 (.tmp (0 : Nat)), none⟩,
  ⟨(some 2), .assign (.const (.slice none 0 0)), none⟩,
  ⟨(some 3), .assign (.const (.int .i64 0)), none⟩]
def curve_Table_r1 : List SO := [⟨(some 7), .load 34 (.tmp (1 : Nat)), none⟩,
  ⟨(some 8), .call ⟨(.value (.func (35 : Nat))), #[(.tmp (7 : Nat))], #[34]⟩, none⟩,
  ⟨(some 4), .assign (.tmp (8 : Nat)), none⟩]
def curve_Table_r2 : List SO := [⟨(some 9), .move (.tmp (4 : Nat)), none⟩,
  ⟨(some 10), .binOp .neq 24 (.tmp (9 : Nat)) (.const (.int .i64 0)) 24, none⟩]
def curve_Table_r3 : List SO := [⟨(some 11), .move (.tmp (4 : Nat)), none⟩,
  ⟨(some 2), .assign (.const (.slice none 0 0)), none⟩,
  ⟨(some 3), .assign (.tmp (11 : Nat)), none⟩]
def curve_Table_r4 : List SO := [⟨(some 12), .makeSlice 22 (.const (.int .i64 256)) (.const (.int .i64 256)), none⟩,
  ⟨(some 5), .assign (.tmp (12 : Nat)), none⟩]
def curve_Table_r5 : List SO := [⟨(some 13), .move (.tmp (5 : Nat)), none⟩,
  ⟨(some 14), .call ⟨(.builtin .len), #[(.tmp (13 : Nat))], #[22]⟩, none⟩,
  ⟨(some 15), .move (.const (.int .i64 0)), none⟩]
def curve_Table_r6 : List SO := [⟨(some 16), .binOp .lss 3 (.tmp (15 : Nat)) (.tmp (14 : Nat)) 3, none⟩]
def curve_Table_r7 : List SO := [⟨(some 17), .move (.tmp (15 : Nat)), none⟩,
  ⟨(some 6), .assign (.tmp (17 : Nat)), none⟩]
def curve_Table_r8 : List SO := [⟨(some 18), .move (.tmp (5 : Nat)), none⟩,
  ⟨(some 19), .move (.tmp (6 : Nat)), none⟩,
  ⟨(some 20), .load 34 (.tmp (1 : Nat)), none⟩,
  ⟨(some 21), .move (.tmp (6 : Nat)), none⟩,
  ⟨(some 22), .binOp .mul 3 (.const (.int .i64 256)) (.tmp (21 : Nat)) 3, none⟩,
  ⟨(some 23), .call ⟨(.value (.func (52 : Nat))), #[(.tmp (20 : Nat)), (.tmp (22 : Nat))], #[34, 3]⟩, none⟩,
  ⟨(some 24), .call ⟨(.value (.func (60 : Nat))), #[(.tmp (23 : Nat)), (.const (.int .i64 256))], #[3, 3]⟩, none⟩,
  ⟨(some 25), .indexAddr 22 (.tmp (18 : Nat)) (.tmp (19 : Nat)), none⟩,
  ⟨none, .store 3 (.tmp (25 : Nat)) (.tmp (24 : Nat)), none⟩]
def curve_Table_r9 : List SO := [⟨(some 26), .binOp .add 3 (.tmp (15 : Nat)) (.const (.int .i64 1)) 3, none⟩,
  ⟨(some 15), .move (.tmp (26 : Nat)), none⟩]
def curve_Table_r10 : List SO := [⟨(some 27), .move (.tmp (5 : Nat)), none⟩,
  ⟨(some 2), .assign (.tmp (27 : Nat)), none⟩,
  ⟨(some 3), .assign (.const (.int .i64 0)), none⟩]
def curve_Table_c : SF := ⟨28, (.seq (.reg curve_Table_r0)
  (.seq (.seq (.reg curve_Table_r1)
  (.seq (.reg curve_Table_r2)
  (.cond (.tmp (10 : Nat)) (.seq (.reg curve_Table_r3)
  .ret) .skip)))
  (.seq (.reg curve_Table_r4)
  (.seq (.seq (.reg curve_Table_r5)
  (.block 0 (.loop (.seq (.reg curve_Table_r6)
  (.seq (.cond (.tmp (16 : Nat)) .skip (.exit 0))
  (.seq (.block 1 (.seq (.reg curve_Table_r7)
  (.reg curve_Table_r8)))
  (.reg curve_Table_r9)))))))
  (.seq (.reg curve_Table_r10)
  .ret))))), [.tmp 2, .tmp 3]⟩
theorem curve_Table_s : slimF Try.prog 49 = some curve_Table_c := by kernel_rfl
abbrev curve_Table_f : Nat := 49
/-- printworks/curve.Fit -/
def curve_Fit_r0 : List SO := [⟨(some 2), .alloc 34, none⟩,
  ⟨(some 3), .assign (.const (.int .i64 0)), none⟩]
def curve_Fit_r1 : List SO := [⟨(some 18), .move (.tmp (0 : Nat)), none⟩,
  ⟨(some 19), .call ⟨(.builtin .len), #[(.tmp (18 : Nat))], #[32]⟩, none⟩,
  ⟨(some 20), .binOp .gtr 3 (.tmp (19 : Nat)) (.const (.int .i64 31)) 3, none⟩]
def curve_Fit_r2 : List SO := [⟨(some 21), .build 34 #[], none⟩,
  ⟨none, .store 34 (.tmp (2 : Nat)) (.tmp (21 : Nat)), none⟩,
  ⟨(some 3), .assign (.const (.int .i64 2)), none⟩]
def curve_Fit_r3 : List SO := [⟨(some 22), .move (.tmp (0 : Nat)), none⟩,
  ⟨(some 23), .call ⟨(.builtin .len), #[(.tmp (22 : Nat))], #[32]⟩, none⟩,
  ⟨(some 24), .binOp .eql 3 (.tmp (23 : Nat)) (.const (.int .i64 0)) 3, none⟩]
def curve_Fit_r4 : List SO := [⟨(some 25), .build 34 #[], none⟩,
  ⟨none, .store 34 (.tmp (2 : Nat)) (.tmp (25 : Nat)), none⟩,
  ⟨(some 3), .assign (.const (.int .i64 1)), none⟩]
def curve_Fit_r5 : List SO := [⟨(some 26), .move (.tmp (0 : Nat)), none⟩,
  ⟨(some 27), .call ⟨(.builtin .len), #[(.tmp (26 : Nat))], #[32]⟩, none⟩,
  ⟨(some 28), .move (.const (.int .i64 0)), none⟩]
def curve_Fit_r6 : List SO := [⟨(some 29), .binOp .lss 3 (.tmp (28 : Nat)) (.tmp (27 : Nat)) 3, none⟩]
def curve_Fit_r7 : List SO := [⟨(some 30), .move (.tmp (28 : Nat)), none⟩,
  ⟨(some 31), .indexAddr 32 (.tmp (26 : Nat)) (.tmp (28 : Nat)), none⟩,
  ⟨(some 32), .load 65 (.tmp (31 : Nat)), none⟩,
  ⟨(some 5), .alloc 65, none⟩,
  ⟨(some 4), .assign (.tmp (30 : Nat)), none⟩,
  ⟨none, .store 65 (.tmp (5 : Nat)) (.tmp (32 : Nat)), none⟩]
def curve_Fit_r8 : List SO := [⟨(some 33), .fieldAddr 65 (.tmp (5 : Nat)) 0, none⟩,
  ⟨(some 34), .load 3 (.tmp (33 : Nat)), none⟩,
  ⟨(some 35), .binOp .lss 3 (.tmp (34 : Nat)) (.const (.int .i64 0)) 3, none⟩,
  ⟨(some 36), .move (.tmp (35 : Nat)), none⟩,
  ⟨(some 37), .fieldAddr 65 (.tmp (5 : Nat)) 0, (some (36, false))⟩,
  ⟨(some 38), .load 3 (.tmp (37 : Nat)), (some (36, false))⟩,
  ⟨(some 39), .binOp .gtr 3 (.tmp (38 : Nat)) (.const (.int .i64 65280)) 3, (some (36, false))⟩,
  ⟨(some 40), .pick (.tmp (36 : Nat)) (.const (.bool true)) (.tmp (39 : Nat)), none⟩,
  ⟨(some 41), .move (.tmp (40 : Nat)), none⟩,
  ⟨(some 42), .fieldAddr 65 (.tmp (5 : Nat)) 1, (some (41, false))⟩,
  ⟨(some 43), .load 3 (.tmp (42 : Nat)), (some (41, false))⟩,
  ⟨(some 44), .binOp .lss 3 (.tmp (43 : Nat)) (.const (.int .i64 0)) 3, (some (41, false))⟩,
  ⟨(some 45), .pick (.tmp (41 : Nat)) (.const (.bool true)) (.tmp (44 : Nat)), none⟩,
  ⟨(some 46), .move (.tmp (45 : Nat)), none⟩,
  ⟨(some 47), .fieldAddr 65 (.tmp (5 : Nat)) 1, (some (46, false))⟩,
  ⟨(some 48), .load 3 (.tmp (47 : Nat)), (some (46, false))⟩,
  ⟨(some 49), .binOp .gtr 3 (.tmp (48 : Nat)) (.const (.int .i64 65280)) 3, (some (46, false))⟩,
  ⟨(some 50), .pick (.tmp (46 : Nat)) (.const (.bool true)) (.tmp (49 : Nat)), none⟩]
def curve_Fit_r9 : List SO := [⟨(some 51), .build 34 #[], none⟩,
  ⟨none, .store 34 (.tmp (2 : Nat)) (.tmp (51 : Nat)), none⟩,
  ⟨(some 3), .assign (.const (.int .i64 3)), none⟩]
def curve_Fit_r10 : List SO := [⟨(some 52), .move (.tmp (4 : Nat)), none⟩,
  ⟨(some 53), .binOp .gtr 3 (.tmp (52 : Nat)) (.const (.int .i64 0)) 3, none⟩,
  ⟨(some 54), .move (.tmp (53 : Nat)), none⟩,
  ⟨(some 55), .fieldAddr 65 (.tmp (5 : Nat)) 0, (some (54, true))⟩,
  ⟨(some 56), .load 3 (.tmp (55 : Nat)), (some (54, true))⟩,
  ⟨(some 57), .move (.tmp (0 : Nat)), (some (54, true))⟩,
  ⟨(some 58), .move (.tmp (4 : Nat)), (some (54, true))⟩,
  ⟨(some 59), .binOp .sub 3 (.tmp (58 : Nat)) (.const (.int .i64 1)) 3, (some (54, true))⟩,
  ⟨(some 60), .indexAddr 32 (.tmp (57 : Nat)) (.tmp (59 : Nat)), (some (54, true))⟩,
  ⟨(some 61), .fieldAddr 65 (.tmp (60 : Nat)) 0, (some (54, true))⟩,
  ⟨(some 62), .load 3 (.tmp (61 : Nat)), (some (54, true))⟩,
  ⟨(some 63), .binOp .leq 3 (.tmp (56 : Nat)) (.tmp (62 : Nat)) 3, (some (54, true))⟩,
  ⟨(some 64), .pick (.tmp (54 : Nat)) (.tmp (63 : Nat)) (.const (.bool false)), none⟩]
def curve_Fit_a10 : List (List Nat) := [[], [0], [1], [2], [3, 2], [2], [2], [6, 2], [5, 7, 2], [8, 2], [9, 2], [4, 10, 2], [2, 11]]
def curve_Fit_r11 : List SO := [⟨(some 65), .build 34 #[], none⟩,
  ⟨none, .store 34 (.tmp (2 : Nat)) (.tmp (65 : Nat)), none⟩,
  ⟨(some 3), .assign (.const (.int .i64 18)), none⟩]
def curve_Fit_r12 : List SO := [⟨(some 66), .binOp .add 3 (.tmp (28 : Nat)) (.const (.int .i64 1)) 3, none⟩,
  ⟨(some 28), .move (.tmp (66 : Nat)), none⟩]
def curve_Fit_r13 : List SO := [⟨(some 6), .assign (.const (.slice none 0 0)), none⟩]
def curve_Fit_r14 : List SO := [⟨(some 67), .move (.tmp (0 : Nat)), none⟩,
  ⟨(some 68), .call ⟨(.builtin .len), #[(.tmp (67 : Nat))], #[32]⟩, none⟩,
  ⟨(some 69), .move (.const (.int .i64 0)), none⟩]
def curve_Fit_r15 : List SO := [⟨(some 70), .binOp .lss 3 (.tmp (69 : Nat)) (.tmp (68 : Nat)) 3, none⟩]
def curve_Fit_r16 : List SO := [⟨(some 71), .indexAddr 32 (.tmp (67 : Nat)) (.tmp (69 : Nat)), none⟩,
  ⟨(some 72), .load 65 (.tmp (71 : Nat)), none⟩,
  ⟨(some 8), .alloc 65, none⟩,
  ⟨none, .store 65 (.tmp (8 : Nat)) (.tmp (72 : Nat)), none⟩]
def curve_Fit_r17 : List SO := [⟨(some 73), .fieldAddr 65 (.tmp (8 : Nat)) 1, none⟩,
  ⟨(some 74), .load 3 (.tmp (73 : Nat)), none⟩,
  ⟨(some 75), .build 103 #[(0, (.tmp (74 : Nat))), (1, (.const (.int .i64 1)))], none⟩,
  ⟨(some 9), .alloc 103, none⟩,
  ⟨none, .store 103 (.tmp (9 : Nat)) (.tmp (75 : Nat)), none⟩]
def curve_Fit_r18 : List SO := [⟨(some 76), .move (.tmp (6 : Nat)), none⟩,
  ⟨(some 77), .call ⟨(.builtin .len), #[(.tmp (76 : Nat))], #[101]⟩, none⟩,
  ⟨(some 78), .binOp .gtr 3 (.tmp (77 : Nat)) (.const (.int .i64 0)) 3, none⟩]
def curve_Fit_r19 : List SO := [⟨(some 79), .move (.tmp (6 : Nat)), none⟩,
  ⟨(some 80), .move (.tmp (6 : Nat)), none⟩,
  ⟨(some 81), .call ⟨(.builtin .len), #[(.tmp (80 : Nat))], #[101]⟩, none⟩,
  ⟨(some 82), .binOp .sub 3 (.tmp (81 : Nat)) (.const (.int .i64 1)) 3, none⟩,
  ⟨(some 83), .indexAddr 101 (.tmp (79 : Nat)) (.tmp (82 : Nat)), none⟩,
  ⟨(some 84), .load 103 (.tmp (83 : Nat)), none⟩,
  ⟨(some 10), .alloc 103, none⟩,
  ⟨none, .store 103 (.tmp (10 : Nat)) (.tmp (84 : Nat)), none⟩]
def curve_Fit_r20 : List SO := [⟨(some 85), .fieldAddr 103 (.tmp (10 : Nat)) 0, none⟩,
  ⟨(some 86), .load 3 (.tmp (85 : Nat)), none⟩,
  ⟨(some 87), .fieldAddr 103 (.tmp (9 : Nat)) 1, none⟩,
  ⟨(some 88), .load 3 (.tmp (87 : Nat)), none⟩,
  ⟨(some 89), .binOp .mul 3 (.tmp (86 : Nat)) (.tmp (88 : Nat)) 3, none⟩,
  ⟨(some 90), .fieldAddr 103 (.tmp (9 : Nat)) 0, none⟩,
  ⟨(some 91), .load 3 (.tmp (90 : Nat)), none⟩,
  ⟨(some 92), .fieldAddr 103 (.tmp (10 : Nat)) 1, none⟩,
  ⟨(some 93), .load 3 (.tmp (92 : Nat)), none⟩,
  ⟨(some 94), .binOp .mul 3 (.tmp (91 : Nat)) (.tmp (93 : Nat)) 3, none⟩,
  ⟨(some 95), .binOp .leq 3 (.tmp (89 : Nat)) (.tmp (94 : Nat)) 3, none⟩]
def curve_Fit_r21 : List SO := [⟨(some 96), .fieldAddr 103 (.tmp (10 : Nat)) 0, none⟩,
  ⟨(some 97), .load 3 (.tmp (96 : Nat)), none⟩,
  ⟨(some 98), .fieldAddr 103 (.tmp (9 : Nat)) 0, none⟩,
  ⟨(some 99), .load 3 (.tmp (98 : Nat)), none⟩,
  ⟨(some 100), .binOp .add 3 (.tmp (97 : Nat)) (.tmp (99 : Nat)) 3, none⟩,
  ⟨(some 101), .fieldAddr 103 (.tmp (10 : Nat)) 1, none⟩,
  ⟨(some 102), .load 3 (.tmp (101 : Nat)), none⟩,
  ⟨(some 103), .fieldAddr 103 (.tmp (9 : Nat)) 1, none⟩,
  ⟨(some 104), .load 3 (.tmp (103 : Nat)), none⟩,
  ⟨(some 105), .binOp .add 3 (.tmp (102 : Nat)) (.tmp (104 : Nat)) 3, none⟩,
  ⟨(some 106), .build 103 #[(0, (.tmp (100 : Nat))), (1, (.tmp (105 : Nat)))], none⟩,
  ⟨none, .store 103 (.tmp (9 : Nat)) (.tmp (106 : Nat)), none⟩]
def curve_Fit_r22 : List SO := [⟨(some 107), .move (.tmp (6 : Nat)), none⟩,
  ⟨(some 108), .move (.tmp (6 : Nat)), none⟩,
  ⟨(some 109), .call ⟨(.builtin .len), #[(.tmp (108 : Nat))], #[101]⟩, none⟩,
  ⟨(some 110), .binOp .sub 3 (.tmp (109 : Nat)) (.const (.int .i64 1)) 3, none⟩,
  ⟨(some 111), .slice 101 (.tmp (107 : Nat)) none (some (.tmp (110 : Nat))) none, none⟩,
  ⟨(some 6), .assign (.tmp (111 : Nat)), none⟩]
def curve_Fit_r23 : List SO := [⟨(some 112), .move (.tmp (6 : Nat)), none⟩,
  ⟨(some 113), .load 103 (.tmp (9 : Nat)), none⟩,
  ⟨(some 114), .buildSlice 101 1 #[(0, (.tmp (113 : Nat)))], none⟩,
  ⟨(some 115), .call ⟨(.builtin .append), #[(.tmp (112 : Nat)), (.tmp (114 : Nat))], #[101, 101]⟩, none⟩,
  ⟨(some 6), .assign (.tmp (115 : Nat)), none⟩]
def curve_Fit_r24 : List SO := [⟨(some 116), .binOp .add 3 (.tmp (69 : Nat)) (.const (.int .i64 1)) 3, none⟩,
  ⟨(some 69), .move (.tmp (116 : Nat)), none⟩]
def curve_Fit_r25 : List SO := [⟨(some 11), .assign (.const (.slice none 0 0)), none⟩]
def curve_Fit_r26 : List SO := [⟨(some 12), .assign (.const (.int .i64 0)), none⟩]
def curve_Fit_r27 : List SO := [⟨(some 117), .move (.tmp (6 : Nat)), none⟩,
  ⟨(some 118), .call ⟨(.builtin .len), #[(.tmp (117 : Nat))], #[101]⟩, none⟩,
  ⟨(some 119), .move (.const (.int .i64 0)), none⟩]
def curve_Fit_r28 : List SO := [⟨(some 120), .binOp .lss 3 (.tmp (119 : Nat)) (.tmp (118 : Nat)) 3, none⟩]
def curve_Fit_r29 : List SO := [⟨(some 121), .indexAddr 101 (.tmp (117 : Nat)) (.tmp (119 : Nat)), none⟩,
  ⟨(some 122), .load 103 (.tmp (121 : Nat)), none⟩,
  ⟨(some 14), .alloc 103, none⟩,
  ⟨none, .store 103 (.tmp (14 : Nat)) (.tmp (122 : Nat)), none⟩]
def curve_Fit_r30 : List SO := [⟨(some 123), .fieldAddr 103 (.tmp (14 : Nat)) 0, none⟩,
  ⟨(some 124), .load 3 (.tmp (123 : Nat)), none⟩,
  ⟨(some 125), .fieldAddr 103 (.tmp (14 : Nat)) 1, none⟩,
  ⟨(some 126), .load 3 (.tmp (125 : Nat)), none⟩,
  ⟨(some 127), .call ⟨(.value (.func (60 : Nat))), #[(.tmp (124 : Nat)), (.tmp (126 : Nat))], #[3, 3]⟩, none⟩,
  ⟨(some 15), .assign (.tmp (127 : Nat)), none⟩]
def curve_Fit_r31 : List SO := [⟨(some 128), .fieldAddr 103 (.tmp (14 : Nat)) 1, none⟩,
  ⟨(some 129), .load 3 (.tmp (128 : Nat)), none⟩,
  ⟨(some 130), .move (.const (.int .i64 0)), none⟩]
def curve_Fit_r32 : List SO := [⟨(some 131), .binOp .lss 3 (.tmp (130 : Nat)) (.tmp (129 : Nat)) 3, none⟩]
def curve_Fit_r33 : List SO := [⟨(some 132), .move (.tmp (11 : Nat)), none⟩,
  ⟨(some 133), .move (.tmp (0 : Nat)), none⟩,
  ⟨(some 134), .move (.tmp (12 : Nat)), none⟩,
  ⟨(some 135), .indexAddr 32 (.tmp (133 : Nat)) (.tmp (134 : Nat)), none⟩,
  ⟨(some 136), .fieldAddr 65 (.tmp (135 : Nat)) 0, none⟩,
  ⟨(some 137), .load 3 (.tmp (136 : Nat)), none⟩,
  ⟨(some 138), .move (.tmp (15 : Nat)), none⟩,
  ⟨(some 139), .build 65 #[(0, (.tmp (137 : Nat))), (1, (.tmp (138 : Nat)))], none⟩,
  ⟨(some 140), .buildSlice 32 1 #[(0, (.tmp (139 : Nat)))], none⟩,
  ⟨(some 141), .call ⟨(.builtin .append), #[(.tmp (132 : Nat)), (.tmp (140 : Nat))], #[32, 32]⟩, none⟩,
  ⟨(some 11), .assign (.tmp (141 : Nat)), none⟩]
def curve_Fit_r34 : List SO := [⟨(some 142), .move (.tmp (12 : Nat)), none⟩,
  ⟨(some 143), .binOp .add 3 (.tmp (142 : Nat)) (.const (.int .i64 1)) 3, none⟩,
  ⟨(some 12), .assign (.tmp (143 : Nat)), none⟩]
def curve_Fit_r35 : List SO := [⟨(some 144), .binOp .add 3 (.tmp (130 : Nat)) (.const (.int .i64 1)) 3, none⟩,
  ⟨(some 130), .move (.tmp (144 : Nat)), none⟩]
def curve_Fit_r36 : List SO := [⟨(some 145), .binOp .add 3 (.tmp (119 : Nat)) (.const (.int .i64 1)) 3, none⟩,
  ⟨(some 119), .move (.tmp (145 : Nat)), none⟩]
def curve_Fit_r37 : List SO := [⟨(some 146), .move (.tmp (11 : Nat)), none⟩,
  ⟨(some 147), .indexAddr 32 (.tmp (146 : Nat)) (.const (.int .i64 0)), none⟩,
  ⟨(some 148), .load 65 (.tmp (147 : Nat)), none⟩,
  ⟨(some 16), .alloc 65, none⟩,
  ⟨none, .store 65 (.tmp (16 : Nat)) (.tmp (148 : Nat)), none⟩]
def curve_Fit_r38 : List SO := [⟨(some 149), .fieldAddr 65 (.tmp (16 : Nat)) 0, none⟩,
  ⟨(some 150), .load 3 (.tmp (149 : Nat)), none⟩,
  ⟨(some 151), .binOp .gtr 3 (.tmp (150 : Nat)) (.const (.int .i64 0)) 3, none⟩]
def curve_Fit_r39 : List SO := [⟨(some 152), .fieldAddr 65 (.tmp (16 : Nat)) 1, none⟩,
  ⟨(some 153), .load 3 (.tmp (152 : Nat)), none⟩,
  ⟨(some 154), .build 65 #[(0, (.const (.int .i64 0))), (1, (.tmp (153 : Nat)))], none⟩,
  ⟨(some 155), .buildSlice 32 1 #[(0, (.tmp (154 : Nat)))], none⟩,
  ⟨(some 156), .move (.tmp (11 : Nat)), none⟩,
  ⟨(some 157), .call ⟨(.builtin .append), #[(.tmp (155 : Nat)), (.tmp (156 : Nat))], #[32, 32]⟩, none⟩,
  ⟨(some 11), .assign (.tmp (157 : Nat)), none⟩]
def curve_Fit_r40 : List SO := [⟨(some 158), .move (.tmp (11 : Nat)), none⟩,
  ⟨(some 159), .move (.tmp (11 : Nat)), none⟩,
  ⟨(some 160), .call ⟨(.builtin .len), #[(.tmp (159 : Nat))], #[32]⟩, none⟩,
  ⟨(some 161), .binOp .sub 3 (.tmp (160 : Nat)) (.const (.int .i64 1)) 3, none⟩,
  ⟨(some 162), .indexAddr 32 (.tmp (158 : Nat)) (.tmp (161 : Nat)), none⟩,
  ⟨(some 163), .load 65 (.tmp (162 : Nat)), none⟩,
  ⟨(some 17), .alloc 65, none⟩,
  ⟨none, .store 65 (.tmp (17 : Nat)) (.tmp (163 : Nat)), none⟩]
def curve_Fit_r41 : List SO := [⟨(some 164), .fieldAddr 65 (.tmp (17 : Nat)) 0, none⟩,
  ⟨(some 165), .load 3 (.tmp (164 : Nat)), none⟩,
  ⟨(some 166), .binOp .lss 3 (.tmp (165 : Nat)) (.const (.int .i64 65280)) 3, none⟩]
def curve_Fit_r42 : List SO := [⟨(some 167), .move (.tmp (11 : Nat)), none⟩,
  ⟨(some 168), .fieldAddr 65 (.tmp (17 : Nat)) 1, none⟩,
  ⟨(some 169), .load 3 (.tmp (168 : Nat)), none⟩,
  ⟨(some 170), .build 65 #[(0, (.const (.int .i64 65280))), (1, (.tmp (169 : Nat)))], none⟩,
  ⟨(some 171), .buildSlice 32 1 #[(0, (.tmp (170 : Nat)))], none⟩,
  ⟨(some 172), .call ⟨(.builtin .append), #[(.tmp (167 : Nat)), (.tmp (171 : Nat))], #[32, 32]⟩, none⟩,
  ⟨(some 11), .assign (.tmp (172 : Nat)), none⟩]
def curve_Fit_r43 : List SO := [⟨(some 173), .move (.tmp (11 : Nat)), none⟩,
  ⟨(some 174), .build 34 #[(0, (.tmp (173 : Nat)))], none⟩,
  ⟨none, .store 34 (.tmp (2 : Nat)) (.tmp (174 : Nat)), none⟩,
  ⟨(some 3), .assign (.const (.int .i64 0)), none⟩]
def curve_Fit_c : SF := ⟨175, (.seq (.reg curve_Fit_r0)
  (.seq (.seq (.reg curve_Fit_r1)
  (.cond (.tmp (20 : Nat)) (.seq (.reg curve_Fit_r2)
  .ret) .skip))
  (.seq (.seq (.reg curve_Fit_r3)
  (.cond (.tmp (24 : Nat)) (.seq (.reg curve_Fit_r4)
  .ret) .skip))
  (.seq (.seq (.reg curve_Fit_r5)
  (.block 0 (.loop (.seq (.reg curve_Fit_r6)
  (.seq (.cond (.tmp (29 : Nat)) .skip (.exit 0))
  (.seq (.block 1 (.seq (.reg curve_Fit_r7)
  (.seq (.seq (.reg curve_Fit_r8)
  (.cond (.tmp (50 : Nat)) (.seq (.reg curve_Fit_r9)
  .ret) .skip))
  (.seq (.regd curve_Fit_r10 curve_Fit_a10)
  (.cond (.tmp (64 : Nat)) (.seq (.reg curve_Fit_r11)
  .ret) .skip)))))
  (.reg curve_Fit_r12)))))))
  (.seq (.reg curve_Fit_r13)
  (.seq (.seq (.reg curve_Fit_r14)
  (.block 2 (.loop (.seq (.reg curve_Fit_r15)
  (.seq (.cond (.tmp (70 : Nat)) .skip (.exit 2))
  (.seq (.block 3 (.seq (.reg curve_Fit_r16)
  (.seq (.reg curve_Fit_r17)
  (.seq (.block 4 (.loop (.seq (.seq (.reg curve_Fit_r18)
  (.cond (.tmp (78 : Nat)) .skip (.exit 4)))
  (.block 5 (.seq (.reg curve_Fit_r19)
  (.seq (.seq (.reg curve_Fit_r20)
  (.cond (.tmp (95 : Nat)) (.exit 4) .skip))
  (.seq (.reg curve_Fit_r21)
  (.reg curve_Fit_r22))))))))
  (.reg curve_Fit_r23)))))
  (.reg curve_Fit_r24)))))))
  (.seq (.reg curve_Fit_r25)
  (.seq (.reg curve_Fit_r26)
  (.seq (.seq (.reg curve_Fit_r27)
  (.block 6 (.loop (.seq (.reg curve_Fit_r28)
  (.seq (.cond (.tmp (120 : Nat)) .skip (.exit 6))
  (.seq (.block 7 (.seq (.reg curve_Fit_r29)
  (.seq (.reg curve_Fit_r30)
  (.seq (.reg curve_Fit_r31)
  (.block 8 (.loop (.seq (.reg curve_Fit_r32)
  (.seq (.cond (.tmp (131 : Nat)) .skip (.exit 8))
  (.seq (.block 9 (.seq (.reg curve_Fit_r33)
  (.reg curve_Fit_r34)))
  (.reg curve_Fit_r35))))))))))
  (.reg curve_Fit_r36)))))))
  (.seq (.seq (.reg curve_Fit_r37)
  (.seq (.reg curve_Fit_r38)
  (.cond (.tmp (151 : Nat)) (.reg curve_Fit_r39) .skip)))
  (.seq (.seq (.reg curve_Fit_r40)
  (.seq (.reg curve_Fit_r41)
  (.cond (.tmp (166 : Nat)) (.reg curve_Fit_r42) .skip)))
  (.seq (.reg curve_Fit_r43)
  .ret)))))))))))), [.cell 2 34, .tmp 3]⟩
theorem curve_Fit_s : slimF Try.prog 50 = some curve_Fit_c := by kernel_rfl
abbrev curve_Fit_f : Nat := 50
/-- printworks/curve.Check -/
def curve_Check_r0 : List SO := [⟨(some 1), .box 34 (.tmp (0 : Nat)), none⟩,
  ⟨(some 2), .assign (.const (.int .i64 0)), none⟩]
def curve_Check_r1 : List SO := [⟨(some 6), .fieldAddr 34 (.tmp (1 : Nat)) 0, none⟩,
  ⟨(some 7), .load 32 (.tmp (6 : Nat)), none⟩,
  ⟨(some 8), .call ⟨(.builtin .len), #[(.tmp (7 : Nat))], #[32]⟩, none⟩,
  ⟨(some 3), .assign (.tmp (8 : Nat)), none⟩]
def curve_Check_r2 : List SO := [⟨(some 10), .move (.tmp (3 : Nat)), none⟩,
  ⟨(some 11), .binOp .gtr 3 (.tmp (10 : Nat)) (.const (.int .i64 33)) 3, none⟩,
  ⟨(some 9), .assign (.tmp (11 : Nat)), none⟩]
def curve_Check_r3 : List SO := [⟨(some 2), .assign (.const (.int .i64 2)), none⟩]
def curve_Check_r4 : List SO := [⟨(some 13), .move (.tmp (3 : Nat)), none⟩,
  ⟨(some 14), .binOp .lss 3 (.tmp (13 : Nat)) (.const (.int .i64 2)) 3, none⟩,
  ⟨(some 12), .assign (.tmp (14 : Nat)), none⟩]
def curve_Check_r5 : List SO := [⟨(some 2), .assign (.const (.int .i64 1)), none⟩]
def curve_Check_r6 : List SO := [⟨(some 15), .fieldAddr 34 (.tmp (1 : Nat)) 0, none⟩,
  ⟨(some 16), .load 32 (.tmp (15 : Nat)), none⟩,
  ⟨(some 17), .call ⟨(.builtin .len), #[(.tmp (16 : Nat))], #[32]⟩, none⟩,
  ⟨(some 18), .move (.const (.int .i64 0)), none⟩]
def curve_Check_r7 : List SO := [⟨(some 19), .binOp .lss 3 (.tmp (18 : Nat)) (.tmp (17 : Nat)) 3, none⟩]
def curve_Check_r8 : List SO := [⟨(some 20), .move (.tmp (18 : Nat)), none⟩,
  ⟨(some 21), .indexAddr 32 (.tmp (16 : Nat)) (.tmp (18 : Nat)), none⟩,
  ⟨(some 22), .load 65 (.tmp (21 : Nat)), none⟩,
  ⟨(some 5), .alloc 65, none⟩,
  ⟨(some 4), .assign (.tmp (20 : Nat)), none⟩,
  ⟨none, .store 65 (.tmp (5 : Nat)) (.tmp (22 : Nat)), none⟩]
def curve_Check_r9 : List SO := [⟨(some 23), .fieldAddr 65 (.tmp (5 : Nat)) 0, none⟩,
  ⟨(some 24), .load 3 (.tmp (23 : Nat)), none⟩,
  ⟨(some 25), .binOp .lss 3 (.tmp (24 : Nat)) (.const (.int .i64 0)) 3, none⟩,
  ⟨(some 26), .move (.tmp (25 : Nat)), none⟩,
  ⟨(some 27), .fieldAddr 65 (.tmp (5 : Nat)) 0, (some (26, false))⟩,
  ⟨(some 28), .load 3 (.tmp (27 : Nat)), (some (26, false))⟩,
  ⟨(some 29), .binOp .gtr 3 (.tmp (28 : Nat)) (.const (.int .i64 65280)) 3, (some (26, false))⟩,
  ⟨(some 30), .pick (.tmp (26 : Nat)) (.const (.bool true)) (.tmp (29 : Nat)), none⟩,
  ⟨(some 31), .move (.tmp (30 : Nat)), none⟩,
  ⟨(some 32), .fieldAddr 65 (.tmp (5 : Nat)) 1, (some (31, false))⟩,
  ⟨(some 33), .load 3 (.tmp (32 : Nat)), (some (31, false))⟩,
  ⟨(some 34), .binOp .lss 3 (.tmp (33 : Nat)) (.const (.int .i64 0)) 3, (some (31, false))⟩,
  ⟨(some 35), .pick (.tmp (31 : Nat)) (.const (.bool true)) (.tmp (34 : Nat)), none⟩,
  ⟨(some 36), .move (.tmp (35 : Nat)), none⟩,
  ⟨(some 37), .fieldAddr 65 (.tmp (5 : Nat)) 1, (some (36, false))⟩,
  ⟨(some 38), .load 3 (.tmp (37 : Nat)), (some (36, false))⟩,
  ⟨(some 39), .binOp .gtr 3 (.tmp (38 : Nat)) (.const (.int .i64 65280)) 3, (some (36, false))⟩,
  ⟨(some 40), .pick (.tmp (36 : Nat)) (.const (.bool true)) (.tmp (39 : Nat)), none⟩]
def curve_Check_r10 : List SO := [⟨(some 2), .assign (.const (.int .i64 3)), none⟩]
def curve_Check_r11 : List SO := [⟨(some 41), .move (.tmp (4 : Nat)), none⟩,
  ⟨(some 42), .binOp .gtr 3 (.tmp (41 : Nat)) (.const (.int .i64 0)) 3, none⟩,
  ⟨(some 43), .move (.tmp (42 : Nat)), none⟩,
  ⟨(some 44), .fieldAddr 65 (.tmp (5 : Nat)) 0, (some (43, true))⟩,
  ⟨(some 45), .load 3 (.tmp (44 : Nat)), (some (43, true))⟩,
  ⟨(some 46), .fieldAddr 34 (.tmp (1 : Nat)) 0, (some (43, true))⟩,
  ⟨(some 47), .load 32 (.tmp (46 : Nat)), (some (43, true))⟩,
  ⟨(some 48), .move (.tmp (4 : Nat)), (some (43, true))⟩,
  ⟨(some 49), .binOp .sub 3 (.tmp (48 : Nat)) (.const (.int .i64 1)) 3, (some (43, true))⟩,
  ⟨(some 50), .indexAddr 32 (.tmp (47 : Nat)) (.tmp (49 : Nat)), (some (43, true))⟩,
  ⟨(some 51), .fieldAddr 65 (.tmp (50 : Nat)) 0, (some (43, true))⟩,
  ⟨(some 52), .load 3 (.tmp (51 : Nat)), (some (43, true))⟩,
  ⟨(some 53), .binOp .leq 3 (.tmp (45 : Nat)) (.tmp (52 : Nat)) 3, (some (43, true))⟩,
  ⟨(some 54), .move (.tmp (53 : Nat)), (some (43, true))⟩,
  ⟨(some 55), .fieldAddr 65 (.tmp (5 : Nat)) 1, (some (54, false))⟩,
  ⟨(some 56), .load 3 (.tmp (55 : Nat)), (some (54, false))⟩,
  ⟨(some 57), .fieldAddr 34 (.tmp (1 : Nat)) 0, (some (54, false))⟩,
  ⟨(some 58), .load 32 (.tmp (57 : Nat)), (some (54, false))⟩,
  ⟨(some 59), .move (.tmp (4 : Nat)), (some (54, false))⟩,
  ⟨(some 60), .binOp .sub 3 (.tmp (59 : Nat)) (.const (.int .i64 1)) 3, (some (54, false))⟩,
  ⟨(some 61), .indexAddr 32 (.tmp (58 : Nat)) (.tmp (60 : Nat)), (some (54, false))⟩,
  ⟨(some 62), .fieldAddr 65 (.tmp (61 : Nat)) 1, (some (54, false))⟩,
  ⟨(some 63), .load 3 (.tmp (62 : Nat)), (some (54, false))⟩,
  ⟨(some 64), .binOp .lss 3 (.tmp (56 : Nat)) (.tmp (63 : Nat)) 3, (some (54, false))⟩,
  ⟨(some 65), .pick (.tmp (54 : Nat)) (.const (.bool true)) (.tmp (64 : Nat)), (some (43, true))⟩,
  ⟨(some 66), .pick (.tmp (43 : Nat)) (.tmp (65 : Nat)) (.const (.bool false)), none⟩]
def curve_Check_a11 : List (List Nat) := [[], [0], [1], [2], [3, 2], [2], [5, 2], [2], [7, 2], [6, 8, 2], [9, 2], [10, 2], [4, 11, 2], [12, 2, 2], [13], [14, 13], [13], [16, 13], [13], [18, 13], [17, 19, 13], [20, 13], [21, 13], [15, 22, 13], [13, 23, 2], [2, 24]]
def curve_Check_r12 : List SO := [⟨(some 2), .assign (.const (.int .i64 18)), none⟩]
def curve_Check_r13 : List SO := [⟨(some 67), .binOp .add 3 (.tmp (18 : Nat)) (.const (.int .i64 1)) 3, none⟩,
  ⟨(some 18), .move (.tmp (67 : Nat)), none⟩]
def curve_Check_r14 : List SO := [⟨(some 68), .fieldAddr 34 (.tmp (1 : Nat)) 0, none⟩,
  ⟨(some 69), .load 32 (.tmp (68 : Nat)), none⟩,
  ⟨(some 70), .indexAddr 32 (.tmp (69 : Nat)) (.const (.int .i64 0)), none⟩,
  ⟨(some 71), .fieldAddr 65 (.tmp (70 : Nat)) 0, none⟩,
  ⟨(some 72), .load 3 (.tmp (71 : Nat)), none⟩,
  ⟨(some 73), .binOp .neq 3 (.tmp (72 : Nat)) (.const (.int .i64 0)) 3, none⟩,
  ⟨(some 74), .move (.tmp (73 : Nat)), none⟩,
  ⟨(some 75), .fieldAddr 34 (.tmp (1 : Nat)) 0, (some (74, false))⟩,
  ⟨(some 76), .load 32 (.tmp (75 : Nat)), (some (74, false))⟩,
  ⟨(some 77), .fieldAddr 34 (.tmp (1 : Nat)) 0, (some (74, false))⟩,
  ⟨(some 78), .load 32 (.tmp (77 : Nat)), (some (74, false))⟩,
  ⟨(some 79), .call ⟨(.builtin .len), #[(.tmp (78 : Nat))], #[32]⟩, (some (74, false))⟩,
  ⟨(some 80), .binOp .sub 3 (.tmp (79 : Nat)) (.const (.int .i64 1)) 3, (some (74, false))⟩,
  ⟨(some 81), .indexAddr 32 (.tmp (76 : Nat)) (.tmp (80 : Nat)), (some (74, false))⟩,
  ⟨(some 82), .fieldAddr 65 (.tmp (81 : Nat)) 0, (some (74, false))⟩,
  ⟨(some 83), .load 3 (.tmp (82 : Nat)), (some (74, false))⟩,
  ⟨(some 84), .binOp .neq 3 (.tmp (83 : Nat)) (.const (.int .i64 65280)) 3, (some (74, false))⟩,
  ⟨(some 85), .pick (.tmp (74 : Nat)) (.const (.bool true)) (.tmp (84 : Nat)), none⟩]
def curve_Check_r15 : List SO := [⟨(some 2), .assign (.const (.int .i64 4)), none⟩]
def curve_Check_r16 : List SO := [⟨(some 2), .assign (.const (.int .i64 0)), none⟩]
def curve_Check_c : SF := ⟨86, (.seq (.reg curve_Check_r0)
  (.seq (.seq (.reg curve_Check_r1)
  (.block 0 (.seq (.reg curve_Check_r2)
  (.cond (.tmp (9 : Nat)) (.seq (.reg curve_Check_r3)
  .ret) (.seq (.reg curve_Check_r4)
  (.cond (.tmp (12 : Nat)) (.seq (.reg curve_Check_r5)
  .ret) .skip))))))
  (.seq (.seq (.reg curve_Check_r6)
  (.block 1 (.loop (.seq (.reg curve_Check_r7)
  (.seq (.cond (.tmp (19 : Nat)) .skip (.exit 1))
  (.seq (.block 2 (.seq (.reg curve_Check_r8)
  (.seq (.seq (.reg curve_Check_r9)
  (.cond (.tmp (40 : Nat)) (.seq (.reg curve_Check_r10)
  .ret) .skip))
  (.seq (.regd curve_Check_r11 curve_Check_a11)
  (.cond (.tmp (66 : Nat)) (.seq (.reg curve_Check_r12)
  .ret) .skip)))))
  (.reg curve_Check_r13)))))))
  (.seq (.seq (.reg curve_Check_r14)
  (.cond (.tmp (85 : Nat)) (.seq (.reg curve_Check_r15)
  .ret) .skip))
  (.seq (.reg curve_Check_r16)
  .ret))))), [.tmp 2]⟩
theorem curve_Check_s : slimF Try.prog 35 = some curve_Check_c := by kernel_rfl
abbrev curve_Check_f : Nat := 35
/-- printworks/curve.least -/
def curve_least_r0 : List SO := [⟨(some 2), .box 34 (.tmp (0 : Nat)), none⟩,
  ⟨(some 4), .assign (.const (.int .i64 0)), none⟩]
def curve_least_r1 : List SO := [⟨(some 5), .assign (.const (.int .i64 (-1))), none⟩,
  ⟨(some 6), .assign (.const (.int .i64 65280)), none⟩]
def curve_least_r2 : List SO := [⟨(some 8), .move (.tmp (6 : Nat)), none⟩,
  ⟨(some 9), .move (.tmp (5 : Nat)), none⟩,
  ⟨(some 10), .binOp .sub 3 (.tmp (8 : Nat)) (.tmp (9 : Nat)) 3, none⟩,
  ⟨(some 11), .binOp .gtr 3 (.tmp (10 : Nat)) (.const (.int .i64 1)) 3, none⟩]
def curve_least_r3 : List SO := [⟨(some 12), .move (.tmp (5 : Nat)), none⟩,
  ⟨(some 13), .move (.tmp (6 : Nat)), none⟩,
  ⟨(some 14), .binOp .add 3 (.tmp (12 : Nat)) (.tmp (13 : Nat)) 3, none⟩,
  ⟨(some 15), .binOp .quo 3 (.tmp (14 : Nat)) (.const (.int .i64 2)) 3, none⟩,
  ⟨(some 7), .assign (.tmp (15 : Nat)), none⟩]
def curve_least_r4 : List SO := [⟨(some 16), .load 34 (.tmp (2 : Nat)), none⟩,
  ⟨(some 17), .move (.tmp (7 : Nat)), none⟩,
  ⟨(some 18), .call ⟨(.value (.func (52 : Nat))), #[(.tmp (16 : Nat)), (.tmp (17 : Nat))], #[34, 3]⟩, none⟩,
  ⟨(some 19), .move (.tmp (1 : Nat)), none⟩,
  ⟨(some 20), .binOp .geq 3 (.tmp (18 : Nat)) (.tmp (19 : Nat)) 3, none⟩]
def curve_least_r5 : List SO := [⟨(some 21), .move (.tmp (7 : Nat)), none⟩,
  ⟨(some 6), .assign (.tmp (21 : Nat)), none⟩]
def curve_least_r6 : List SO := [⟨(some 22), .move (.tmp (7 : Nat)), none⟩,
  ⟨(some 5), .assign (.tmp (22 : Nat)), none⟩]
def curve_least_r7 : List SO := [⟨(some 23), .move (.tmp (6 : Nat)), none⟩,
  ⟨(some 4), .assign (.tmp (23 : Nat)), none⟩]
def curve_least_c : SF := ⟨24, (.seq (.reg curve_least_r0)
  (.seq (.reg curve_least_r1)
  (.seq (.block 0 (.loop (.seq (.seq (.reg curve_least_r2)
  (.cond (.tmp (11 : Nat)) .skip (.exit 0)))
  (.block 1 (.seq (.reg curve_least_r3)
  (.seq (.reg curve_least_r4)
  (.cond (.tmp (20 : Nat)) (.reg curve_least_r5) (.reg curve_least_r6))))))))
  (.seq (.reg curve_least_r7)
  .ret)))), [.tmp 4]⟩
theorem curve_least_s : slimF Try.prog 51 = some curve_least_c := by kernel_rfl
abbrev curve_least_f : Nat := 51
/-- printworks/curve.Raw -/
def curve_Raw_r0 : List SO := [⟨(some 2), .box 34 (.tmp (0 : Nat)), none⟩,
  ⟨(some 4), .assign (.const (.int .i64 0)), none⟩]
def curve_Raw_r1 : List SO := [⟨(some 10), .fieldAddr 34 (.tmp (2 : Nat)) 0, none⟩,
  ⟨(some 11), .load 32 (.tmp (10 : Nat)), none⟩,
  ⟨(some 12), .call ⟨(.builtin .len), #[(.tmp (11 : Nat))], #[32]⟩, none⟩,
  ⟨(some 13), .binOp .sub 3 (.tmp (12 : Nat)) (.const (.int .i64 1)) 3, none⟩,
  ⟨(some 5), .assign (.const (.int .i64 0)), none⟩,
  ⟨(some 6), .assign (.tmp (13 : Nat)), none⟩]
def curve_Raw_a1 : List (List Nat) := [[], [0], [1], [2], [], [3, 4, 0, 1, 2, 3, 4]]
def curve_Raw_r2 : List SO := [⟨(some 14), .move (.tmp (6 : Nat)), none⟩,
  ⟨(some 15), .move (.tmp (5 : Nat)), none⟩,
  ⟨(some 16), .binOp .sub 3 (.tmp (14 : Nat)) (.tmp (15 : Nat)) 3, none⟩,
  ⟨(some 17), .binOp .gtr 3 (.tmp (16 : Nat)) (.const (.int .i64 1)) 3, none⟩]
def curve_Raw_r3 : List SO := [⟨(some 18), .move (.tmp (5 : Nat)), none⟩,
  ⟨(some 19), .move (.tmp (6 : Nat)), none⟩,
  ⟨(some 20), .binOp .add 3 (.tmp (18 : Nat)) (.tmp (19 : Nat)) 3, none⟩,
  ⟨(some 21), .binOp .quo 3 (.tmp (20 : Nat)) (.const (.int .i64 2)) 3, none⟩,
  ⟨(some 7), .assign (.tmp (21 : Nat)), none⟩]
def curve_Raw_r4 : List SO := [⟨(some 22), .fieldAddr 34 (.tmp (2 : Nat)) 0, none⟩,
  ⟨(some 23), .load 32 (.tmp (22 : Nat)), none⟩,
  ⟨(some 24), .move (.tmp (7 : Nat)), none⟩,
  ⟨(some 25), .indexAddr 32 (.tmp (23 : Nat)) (.tmp (24 : Nat)), none⟩,
  ⟨(some 26), .fieldAddr 65 (.tmp (25 : Nat)) 0, none⟩,
  ⟨(some 27), .load 3 (.tmp (26 : Nat)), none⟩,
  ⟨(some 28), .move (.tmp (1 : Nat)), none⟩,
  ⟨(some 29), .binOp .leq 3 (.tmp (27 : Nat)) (.tmp (28 : Nat)) 3, none⟩]
def curve_Raw_r5 : List SO := [⟨(some 30), .move (.tmp (7 : Nat)), none⟩,
  ⟨(some 5), .assign (.tmp (30 : Nat)), none⟩]
def curve_Raw_r6 : List SO := [⟨(some 31), .move (.tmp (7 : Nat)), none⟩,
  ⟨(some 6), .assign (.tmp (31 : Nat)), none⟩]
def curve_Raw_r7 : List SO := [⟨(some 32), .fieldAddr 34 (.tmp (2 : Nat)) 0, none⟩,
  ⟨(some 33), .load 32 (.tmp (32 : Nat)), none⟩,
  ⟨(some 34), .move (.tmp (5 : Nat)), none⟩,
  ⟨(some 35), .indexAddr 32 (.tmp (33 : Nat)) (.tmp (34 : Nat)), none⟩,
  ⟨(some 36), .load 65 (.tmp (35 : Nat)), none⟩,
  ⟨(some 37), .fieldAddr 34 (.tmp (2 : Nat)) 0, none⟩,
  ⟨(some 38), .load 32 (.tmp (37 : Nat)), none⟩,
  ⟨(some 39), .move (.tmp (6 : Nat)), none⟩,
  ⟨(some 40), .indexAddr 32 (.tmp (38 : Nat)) (.tmp (39 : Nat)), none⟩,
  ⟨(some 41), .load 65 (.tmp (40 : Nat)), none⟩,
  ⟨(some 8), .alloc 65, none⟩,
  ⟨(some 9), .alloc 65, none⟩,
  ⟨none, .store 65 (.tmp (8 : Nat)) (.tmp (36 : Nat)), none⟩,
  ⟨none, .store 65 (.tmp (9 : Nat)) (.tmp (41 : Nat)), none⟩]
def curve_Raw_a7 : List (List Nat) := [[], [0], [], [1, 2], [3], [], [5], [], [6, 7], [8], [], [], [10, 4, 0, 1, 2, 3, 4, 10, 11], [11, 9, 12, 0, 1, 2, 3, 4, 5, 6, 7, 8, 9, 10, 11, 12]]
def curve_Raw_r8 : List SO := [⟨(some 42), .fieldAddr 65 (.tmp (8 : Nat)) 1, none⟩,
  ⟨(some 43), .load 3 (.tmp (42 : Nat)), none⟩,
  ⟨(some 44), .fieldAddr 65 (.tmp (9 : Nat)) 1, none⟩,
  ⟨(some 45), .load 3 (.tmp (44 : Nat)), none⟩,
  ⟨(some 46), .fieldAddr 65 (.tmp (8 : Nat)) 1, none⟩,
  ⟨(some 47), .load 3 (.tmp (46 : Nat)), none⟩,
  ⟨(some 48), .binOp .sub 3 (.tmp (45 : Nat)) (.tmp (47 : Nat)) 3, none⟩,
  ⟨(some 49), .move (.tmp (1 : Nat)), none⟩,
  ⟨(some 50), .fieldAddr 65 (.tmp (8 : Nat)) 0, none⟩,
  ⟨(some 51), .load 3 (.tmp (50 : Nat)), none⟩,
  ⟨(some 52), .binOp .sub 3 (.tmp (49 : Nat)) (.tmp (51 : Nat)) 3, none⟩,
  ⟨(some 53), .binOp .mul 3 (.tmp (48 : Nat)) (.tmp (52 : Nat)) 3, none⟩,
  ⟨(some 54), .fieldAddr 65 (.tmp (9 : Nat)) 0, none⟩,
  ⟨(some 55), .load 3 (.tmp (54 : Nat)), none⟩,
  ⟨(some 56), .fieldAddr 65 (.tmp (8 : Nat)) 0, none⟩,
  ⟨(some 57), .load 3 (.tmp (56 : Nat)), none⟩,
  ⟨(some 58), .binOp .sub 3 (.tmp (55 : Nat)) (.tmp (57 : Nat)) 3, none⟩,
  ⟨(some 59), .call ⟨(.value (.func (60 : Nat))), #[(.tmp (53 : Nat)), (.tmp (58 : Nat))], #[3, 3]⟩, none⟩,
  ⟨(some 60), .binOp .add 3 (.tmp (43 : Nat)) (.tmp (59 : Nat)) 3, none⟩,
  ⟨(some 4), .assign (.tmp (60 : Nat)), none⟩]
def curve_Raw_a8 : List (List Nat) := [[], [0], [], [2], [], [4], [3, 5], [], [], [8], [7, 9], [6, 10], [], [12], [], [14], [13, 15], [11, 16], [1, 17], [18, 17, 0, 1, 2, 3, 4, 5, 6, 7, 8, 9, 10, 11, 12, 13, 14, 15, 16, 17, 18]]
def curve_Raw_c : SF := ⟨61, (.seq (.reg curve_Raw_r0)
  (.seq (.regd curve_Raw_r1 curve_Raw_a1)
  (.seq (.block 0 (.loop (.seq (.seq (.reg curve_Raw_r2)
  (.cond (.tmp (17 : Nat)) .skip (.exit 0)))
  (.block 1 (.seq (.reg curve_Raw_r3)
  (.seq (.reg curve_Raw_r4)
  (.cond (.tmp (29 : Nat)) (.reg curve_Raw_r5) (.reg curve_Raw_r6))))))))
  (.seq (.regd curve_Raw_r7 curve_Raw_a7)
  (.seq (.regd curve_Raw_r8 curve_Raw_a8)
  .ret))))), [.tmp 4]⟩
theorem curve_Raw_s : slimF Try.prog 52 = some curve_Raw_c := by kernel_rfl
abbrev curve_Raw_f : Nat := 52
/-- printworks/curve.Nearest -/
def curve_Nearest_r0 : List SO := [⟨(some 4), .assign (.const (.int .i64 0)), none⟩]
def curve_Nearest_r1 : List SO := [⟨(some 6), .move (.tmp (0 : Nat)), none⟩,
  ⟨(some 7), .binOp .mul 3 (.const (.int .i64 2)) (.tmp (6 : Nat)) 3, none⟩,
  ⟨(some 8), .move (.tmp (1 : Nat)), none⟩,
  ⟨(some 9), .binOp .add 3 (.tmp (7 : Nat)) (.tmp (8 : Nat)) 3, none⟩,
  ⟨(some 10), .move (.tmp (1 : Nat)), none⟩,
  ⟨(some 11), .binOp .mul 3 (.const (.int .i64 2)) (.tmp (10 : Nat)) 3, none⟩,
  ⟨(some 0), .assign (.tmp (9 : Nat)), none⟩,
  ⟨(some 1), .assign (.tmp (11 : Nat)), none⟩]
def curve_Nearest_r2 : List SO := [⟨(some 12), .move (.tmp (0 : Nat)), none⟩,
  ⟨(some 13), .move (.tmp (1 : Nat)), none⟩,
  ⟨(some 14), .binOp .quo 3 (.tmp (12 : Nat)) (.tmp (13 : Nat)) 3, none⟩,
  ⟨(some 5), .assign (.tmp (14 : Nat)), none⟩]
def curve_Nearest_r3 : List SO := [⟨(some 15), .move (.tmp (0 : Nat)), none⟩,
  ⟨(some 16), .move (.tmp (1 : Nat)), none⟩,
  ⟨(some 17), .binOp .rem 3 (.tmp (15 : Nat)) (.tmp (16 : Nat)) 3, none⟩,
  ⟨(some 18), .binOp .lss 3 (.tmp (17 : Nat)) (.const (.int .i64 0)) 3, none⟩]
def curve_Nearest_r4 : List SO := [⟨(some 19), .move (.tmp (5 : Nat)), none⟩,
  ⟨(some 20), .binOp .sub 3 (.tmp (19 : Nat)) (.const (.int .i64 1)) 3, none⟩,
  ⟨(some 5), .assign (.tmp (20 : Nat)), none⟩]
def curve_Nearest_r5 : List SO := [⟨(some 21), .move (.tmp (5 : Nat)), none⟩,
  ⟨(some 4), .assign (.tmp (21 : Nat)), none⟩]
def curve_Nearest_c : SF := ⟨22, (.seq (.reg curve_Nearest_r0)
  (.seq (.reg curve_Nearest_r1)
  (.seq (.reg curve_Nearest_r2)
  (.seq (.seq (.reg curve_Nearest_r3)
  (.cond (.tmp (18 : Nat)) (.reg curve_Nearest_r4) .skip))
  (.seq (.reg curve_Nearest_r5)
  .ret))))), [.tmp 4]⟩
theorem curve_Nearest_s : slimF Try.prog 60 = some curve_Nearest_c := by kernel_rfl
abbrev curve_Nearest_f : Nat := 60

def tbl : List (Nat × SF) := [(5, K2_CurveGalois_c), (6, K2_CurveMonotone_c), (21, K2_curveWorks_c), (22, curve_Inverse_c), (23, curve_At_c), (48, K2_bent_c), (49, curve_Table_c), (50, curve_Fit_c), (35, curve_Check_c), (51, curve_least_c), (52, curve_Raw_c), (60, curve_Nearest_c)]
theorem tbl_ok : ∀ f sf, find tbl f = some sf → slimF Try.prog f = some sf :=
  find_ok tbl ⟨K2_CurveGalois_s, K2_CurveMonotone_s, K2_curveWorks_s, curve_Inverse_s, curve_At_s, K2_bent_s, curve_Table_s, curve_Fit_s, curve_Check_s, curve_least_s, curve_Raw_s, curve_Nearest_s, trivial⟩

end Go.Proofs.Ythmjeeamomfifaa
