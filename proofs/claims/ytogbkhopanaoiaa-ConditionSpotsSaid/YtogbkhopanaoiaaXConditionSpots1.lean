/- Printed by program: the functions' code in few words; the kernel checks it against the translation. -/
import Derived.Test.YtogbkhopanaoiaaXConditionSpots0
namespace Go.Proofs.Ytogbkhopanaoiaa
open Go Go.Lite
set_option linter.unusedVariables false

/-- printworks/condition.Gray -/
def condition_Gray_r0 : List SO := [⟨(some 2), .box 28 (.tmp (0 : Nat)), none⟩,
  ⟨(some 4), .alloc 32, none⟩,
  ⟨(some 5), .assign (.const (.int .i64 0)), none⟩]
def condition_Gray_r1 : List SO := [⟨(some 7), .load 28 (.tmp (2 : Nat)), none⟩,
  ⟨(some 8), .call ⟨(.value (.func (15 : Nat))), #[(.tmp (7 : Nat))], #[28]⟩, none⟩,
  ⟨(some 6), .assign (.tmp (8 : Nat)), none⟩]
def condition_Gray_r2 : List SO := [⟨(some 9), .move (.tmp (6 : Nat)), none⟩,
  ⟨(some 10), .binOp .neq 33 (.tmp (9 : Nat)) (.const (.int .i64 0)) 33, none⟩]
def condition_Gray_r3 : List SO := [⟨(some 11), .build 32 #[], none⟩,
  ⟨(some 12), .move (.tmp (6 : Nat)), none⟩,
  ⟨none, .store 32 (.tmp (4 : Nat)) (.tmp (11 : Nat)), none⟩,
  ⟨(some 5), .assign (.tmp (12 : Nat)), none⟩]
def condition_Gray_r4 : List SO := [⟨(some 13), .fieldAddr 28 (.tmp (2 : Nat)) 3, none⟩,
  ⟨(some 14), .move (.tmp (1 : Nat)), none⟩,
  ⟨(some 15), .buildSlice 71 1 #[(0, (.tmp (14 : Nat)))], none⟩,
  ⟨(some 16), .call ⟨(.value (.func (37 : Nat))), #[(.tmp (2 : Nat)), (.tmp (13 : Nat)), (.tmp (15 : Nat))], #[81, 82, 71]⟩, none⟩,
  ⟨none, .store 32 (.tmp (4 : Nat)) (.tmp (16 : Nat)), none⟩,
  ⟨(some 5), .assign (.const (.int .i64 0)), none⟩]
def condition_Gray_c : SF := ⟨17, (.seq (.reg condition_Gray_r0)
  (.seq (.seq (.reg condition_Gray_r1)
  (.seq (.reg condition_Gray_r2)
  (.cond (.tmp (10 : Nat)) (.seq (.reg condition_Gray_r3)
  .ret) .skip)))
  (.seq (.reg condition_Gray_r4)
  .ret))), [.cell 4 32, .tmp 5]⟩
theorem condition_Gray_s : slimF Try.prog 11 = some condition_Gray_c := by kernel_rfl
/-- printworks/condition.RGB -/
def condition_RGB_r0 : List SO := [⟨(some 4), .box 28 (.tmp (0 : Nat)), none⟩,
  ⟨(some 8), .alloc 32, none⟩,
  ⟨(some 9), .assign (.const (.int .i64 0)), none⟩]
def condition_RGB_r1 : List SO := [⟨(some 11), .load 28 (.tmp (4 : Nat)), none⟩,
  ⟨(some 12), .call ⟨(.value (.func (15 : Nat))), #[(.tmp (11 : Nat))], #[28]⟩, none⟩,
  ⟨(some 10), .assign (.tmp (12 : Nat)), none⟩]
def condition_RGB_r2 : List SO := [⟨(some 13), .move (.tmp (10 : Nat)), none⟩,
  ⟨(some 14), .binOp .neq 33 (.tmp (13 : Nat)) (.const (.int .i64 0)) 33, none⟩]
def condition_RGB_r3 : List SO := [⟨(some 15), .build 32 #[], none⟩,
  ⟨(some 16), .move (.tmp (10 : Nat)), none⟩,
  ⟨none, .store 32 (.tmp (8 : Nat)) (.tmp (15 : Nat)), none⟩,
  ⟨(some 9), .assign (.tmp (16 : Nat)), none⟩]
def condition_RGB_r4 : List SO := [⟨(some 17), .fieldAddr 28 (.tmp (4 : Nat)) 4, none⟩,
  ⟨(some 18), .move (.tmp (1 : Nat)), none⟩,
  ⟨(some 19), .move (.tmp (2 : Nat)), none⟩,
  ⟨(some 20), .move (.tmp (3 : Nat)), none⟩,
  ⟨(some 21), .buildSlice 71 3 #[(0, (.tmp (18 : Nat))), (1, (.tmp (19 : Nat))), (2, (.tmp (20 : Nat)))], none⟩,
  ⟨(some 22), .call ⟨(.value (.func (37 : Nat))), #[(.tmp (4 : Nat)), (.tmp (17 : Nat)), (.tmp (21 : Nat))], #[81, 82, 71]⟩, none⟩,
  ⟨none, .store 32 (.tmp (8 : Nat)) (.tmp (22 : Nat)), none⟩,
  ⟨(some 9), .assign (.const (.int .i64 0)), none⟩]
def condition_RGB_c : SF := ⟨23, (.seq (.reg condition_RGB_r0)
  (.seq (.seq (.reg condition_RGB_r1)
  (.seq (.reg condition_RGB_r2)
  (.cond (.tmp (14 : Nat)) (.seq (.reg condition_RGB_r3)
  .ret) .skip)))
  (.seq (.reg condition_RGB_r4)
  .ret))), [.cell 8 32, .tmp 9]⟩
theorem condition_RGB_s : slimF Try.prog 12 = some condition_RGB_c := by kernel_rfl
/-- printworks/condition.Process -/
def condition_Process_r0 : List SO := [⟨(some 2), .box 28 (.tmp (0 : Nat)), none⟩,
  ⟨(some 3), .box 29 (.tmp (1 : Nat)), none⟩,
  ⟨(some 4), .alloc 32, none⟩,
  ⟨(some 5), .assign (.const (.int .i64 0)), none⟩]
def condition_Process_r1 : List SO := [⟨(some 10), .load 28 (.tmp (2 : Nat)), none⟩,
  ⟨(some 11), .call ⟨(.value (.func (15 : Nat))), #[(.tmp (10 : Nat))], #[28]⟩, none⟩,
  ⟨(some 6), .assign (.tmp (11 : Nat)), none⟩]
def condition_Process_r2 : List SO := [⟨(some 12), .move (.tmp (6 : Nat)), none⟩,
  ⟨(some 13), .binOp .neq 33 (.tmp (12 : Nat)) (.const (.int .i64 0)) 33, none⟩]
def condition_Process_r3 : List SO := [⟨(some 14), .build 32 #[], none⟩,
  ⟨(some 15), .move (.tmp (6 : Nat)), none⟩,
  ⟨none, .store 32 (.tmp (4 : Nat)) (.tmp (14 : Nat)), none⟩,
  ⟨(some 5), .assign (.tmp (15 : Nat)), none⟩]
def condition_Process_r4 : List SO := [⟨(some 16), .fieldAddr 28 (.tmp (2 : Nat)) 1, none⟩,
  ⟨(some 17), .load 23 (.tmp (16 : Nat)), none⟩,
  ⟨(some 18), .call ⟨(.builtin .len), #[(.tmp (17 : Nat))], #[23]⟩, none⟩,
  ⟨(some 19), .binOp .eql 3 (.tmp (18 : Nat)) (.const (.int .i64 0)) 3, none⟩]
def condition_Process_r5 : List SO := [⟨(some 20), .build 32 #[], none⟩,
  ⟨none, .store 32 (.tmp (4 : Nat)) (.tmp (20 : Nat)), none⟩,
  ⟨(some 5), .assign (.const (.int .i64 8)), none⟩]
def condition_Process_r6 : List SO := [⟨(some 21), .makeSlice 23 (.const (.int .i64 4)) (.const (.int .i64 4)), none⟩,
  ⟨(some 7), .assign (.tmp (21 : Nat)), none⟩]
def condition_Process_r7 : List SO := [⟨(some 22), .load 29 (.tmp (3 : Nat)), none⟩,
  ⟨(some 23), .move (.const (.int .i64 0)), none⟩]
def condition_Process_r8 : List SO := [⟨(some 24), .binOp .lss 3 (.tmp (23 : Nat)) (.const (.int .i64 4)) 3, none⟩]
def condition_Process_r9 : List SO := [⟨(some 25), .move (.tmp (23 : Nat)), none⟩,
  ⟨(some 26), .index 29 (.tmp (22 : Nat)) (.tmp (23 : Nat)), none⟩,
  ⟨(some 8), .assign (.tmp (25 : Nat)), none⟩,
  ⟨(some 9), .assign (.tmp (26 : Nat)), none⟩]
def condition_Process_r10 : List SO := [⟨(some 27), .move (.tmp (7 : Nat)), none⟩,
  ⟨(some 28), .move (.tmp (8 : Nat)), none⟩,
  ⟨(some 29), .move (.tmp (9 : Nat)), none⟩,
  ⟨(some 30), .convert 5 3 (.tmp (29 : Nat)), none⟩,
  ⟨(some 31), .indexAddr 23 (.tmp (27 : Nat)) (.tmp (28 : Nat)), none⟩,
  ⟨none, .store 3 (.tmp (31 : Nat)) (.tmp (30 : Nat)), none⟩]
def condition_Process_r11 : List SO := [⟨(some 32), .binOp .add 3 (.tmp (23 : Nat)) (.const (.int .i64 1)) 3, none⟩,
  ⟨(some 23), .move (.tmp (32 : Nat)), none⟩]
def condition_Process_r12 : List SO := [⟨(some 33), .move (.tmp (7 : Nat)), none⟩,
  ⟨(some 34), .call ⟨(.value (.func (38 : Nat))), #[(.tmp (2 : Nat)), (.tmp (33 : Nat))], #[81, 23]⟩, none⟩,
  ⟨none, .store 32 (.tmp (4 : Nat)) (.tmp (34 : Nat)), none⟩,
  ⟨(some 5), .assign (.const (.int .i64 0)), none⟩]
def condition_Process_c : SF := ⟨35, (.seq (.reg condition_Process_r0)
  (.seq (.seq (.reg condition_Process_r1)
  (.seq (.reg condition_Process_r2)
  (.cond (.tmp (13 : Nat)) (.seq (.reg condition_Process_r3)
  .ret) .skip)))
  (.seq (.seq (.reg condition_Process_r4)
  (.cond (.tmp (19 : Nat)) (.seq (.reg condition_Process_r5)
  .ret) .skip))
  (.seq (.reg condition_Process_r6)
  (.seq (.seq (.reg condition_Process_r7)
  (.block 0 (.loop (.seq (.reg condition_Process_r8)
  (.seq (.cond (.tmp (24 : Nat)) .skip (.exit 0))
  (.seq (.block 1 (.seq (.reg condition_Process_r9)
  (.reg condition_Process_r10)))
  (.reg condition_Process_r11)))))))
  (.seq (.reg condition_Process_r12)
  .ret)))))), [.cell 4 32, .tmp 5]⟩
theorem condition_Process_s : slimF Try.prog 13 = some condition_Process_c := by kernel_rfl
abbrev condition_Process_f : Nat := 13
/-- printworks/condition.Spot -/
def condition_Spot_r0 : List SO := [⟨(some 3), .box 28 (.tmp (0 : Nat)), none⟩,
  ⟨(some 6), .alloc 32, none⟩,
  ⟨(some 7), .assign (.const (.int .i64 0)), none⟩]
def condition_Spot_r1 : List SO := [⟨(some 13), .load 28 (.tmp (3 : Nat)), none⟩,
  ⟨(some 14), .call ⟨(.value (.func (15 : Nat))), #[(.tmp (13 : Nat))], #[28]⟩, none⟩,
  ⟨(some 8), .assign (.tmp (14 : Nat)), none⟩]
def condition_Spot_r2 : List SO := [⟨(some 15), .move (.tmp (8 : Nat)), none⟩,
  ⟨(some 16), .binOp .neq 33 (.tmp (15 : Nat)) (.const (.int .i64 0)) 33, none⟩]
def condition_Spot_r3 : List SO := [⟨(some 17), .build 32 #[], none⟩,
  ⟨(some 18), .move (.tmp (8 : Nat)), none⟩,
  ⟨none, .store 32 (.tmp (6 : Nat)) (.tmp (17 : Nat)), none⟩,
  ⟨(some 7), .assign (.tmp (18 : Nat)), none⟩]
def condition_Spot_r4 : List SO := [⟨(some 19), .fieldAddr 28 (.tmp (3 : Nat)) 0, none⟩,
  ⟨(some 20), .load 22 (.tmp (19 : Nat)), none⟩,
  ⟨(some 21), .call ⟨(.builtin .len), #[(.tmp (20 : Nat))], #[22]⟩, none⟩,
  ⟨(some 22), .move (.const (.int .i64 0)), none⟩]
def condition_Spot_r5 : List SO := [⟨(some 23), .binOp .lss 3 (.tmp (22 : Nat)) (.tmp (21 : Nat)) 3, none⟩]
def condition_Spot_r6 : List SO := [⟨(some 24), .move (.tmp (22 : Nat)), none⟩,
  ⟨(some 25), .indexAddr 22 (.tmp (20 : Nat)) (.tmp (22 : Nat)), none⟩,
  ⟨(some 26), .load 9 (.tmp (25 : Nat)), none⟩,
  ⟨(some 9), .assign (.tmp (24 : Nat)), none⟩,
  ⟨(some 10), .assign (.tmp (26 : Nat)), none⟩]
def condition_Spot_r7 : List SO := [⟨(some 27), .move (.tmp (10 : Nat)), none⟩,
  ⟨(some 28), .move (.tmp (1 : Nat)), none⟩,
  ⟨(some 29), .binOp .eql 9 (.tmp (27 : Nat)) (.tmp (28 : Nat)) 9, none⟩]
def condition_Spot_r8 : List SO := [⟨(some 30), .fieldAddr 28 (.tmp (3 : Nat)) 0, none⟩,
  ⟨(some 31), .load 22 (.tmp (30 : Nat)), none⟩,
  ⟨(some 32), .call ⟨(.builtin .len), #[(.tmp (31 : Nat))], #[22]⟩, none⟩,
  ⟨(some 33), .makeSlice 23 (.tmp (32 : Nat)) (.tmp (32 : Nat)), none⟩,
  ⟨(some 11), .assign (.tmp (33 : Nat)), none⟩]
def condition_Spot_r9 : List SO := [⟨(some 34), .move (.tmp (11 : Nat)), none⟩,
  ⟨(some 35), .move (.tmp (9 : Nat)), none⟩,
  ⟨(some 36), .move (.tmp (2 : Nat)), none⟩,
  ⟨(some 37), .convert 5 3 (.tmp (36 : Nat)), none⟩,
  ⟨(some 38), .indexAddr 23 (.tmp (34 : Nat)) (.tmp (35 : Nat)), none⟩,
  ⟨none, .store 3 (.tmp (38 : Nat)) (.tmp (37 : Nat)), none⟩]
def condition_Spot_r10 : List SO := [⟨(some 39), .move (.tmp (11 : Nat)), none⟩,
  ⟨(some 40), .call ⟨(.value (.func (39 : Nat))), #[(.tmp (3 : Nat)), (.tmp (39 : Nat))], #[81, 23]⟩, none⟩,
  ⟨none, .store 32 (.tmp (6 : Nat)) (.tmp (40 : Nat)), none⟩,
  ⟨(some 7), .assign (.const (.int .i64 0)), none⟩]
def condition_Spot_r11 : List SO := [⟨(some 41), .binOp .add 3 (.tmp (22 : Nat)) (.const (.int .i64 1)) 3, none⟩,
  ⟨(some 22), .move (.tmp (41 : Nat)), none⟩]
def condition_Spot_r12 : List SO := [⟨(some 42), .fieldAddr 28 (.tmp (3 : Nat)) 5, none⟩,
  ⟨(some 43), .load 26 (.tmp (42 : Nat)), none⟩,
  ⟨(some 44), .call ⟨(.builtin .len), #[(.tmp (43 : Nat))], #[26]⟩, none⟩,
  ⟨(some 45), .move (.const (.int .i64 0)), none⟩]
def condition_Spot_r13 : List SO := [⟨(some 46), .binOp .lss 3 (.tmp (45 : Nat)) (.tmp (44 : Nat)) 3, none⟩]
def condition_Spot_r14 : List SO := [⟨(some 47), .move (.tmp (45 : Nat)), none⟩,
  ⟨(some 12), .assign (.tmp (47 : Nat)), none⟩]
def condition_Spot_r15 : List SO := [⟨(some 48), .fieldAddr 28 (.tmp (3 : Nat)) 5, none⟩,
  ⟨(some 49), .load 26 (.tmp (48 : Nat)), none⟩,
  ⟨(some 50), .move (.tmp (12 : Nat)), none⟩,
  ⟨(some 51), .indexAddr 26 (.tmp (49 : Nat)) (.tmp (50 : Nat)), none⟩,
  ⟨(some 52), .fieldAddr 48 (.tmp (51 : Nat)) 0, none⟩,
  ⟨(some 53), .load 9 (.tmp (52 : Nat)), none⟩,
  ⟨(some 54), .move (.tmp (1 : Nat)), none⟩,
  ⟨(some 55), .binOp .eql 9 (.tmp (53 : Nat)) (.tmp (54 : Nat)) 9, none⟩]
def condition_Spot_r16 : List SO := [⟨(some 56), .fieldAddr 28 (.tmp (3 : Nat)) 5, none⟩,
  ⟨(some 57), .load 26 (.tmp (56 : Nat)), none⟩,
  ⟨(some 58), .move (.tmp (12 : Nat)), none⟩,
  ⟨(some 59), .indexAddr 26 (.tmp (57 : Nat)) (.tmp (58 : Nat)), none⟩,
  ⟨(some 60), .move (.tmp (2 : Nat)), none⟩,
  ⟨(some 61), .convert 5 3 (.tmp (60 : Nat)), none⟩,
  ⟨(some 62), .call ⟨(.value (.func (40 : Nat))), #[(.tmp (59 : Nat)), (.tmp (61 : Nat))], #[85, 3]⟩, none⟩,
  ⟨(some 63), .call ⟨(.value (.func (38 : Nat))), #[(.tmp (3 : Nat)), (.tmp (62 : Nat))], #[81, 23]⟩, none⟩,
  ⟨none, .store 32 (.tmp (6 : Nat)) (.tmp (63 : Nat)), none⟩,
  ⟨(some 7), .assign (.const (.int .i64 0)), none⟩]
def condition_Spot_r17 : List SO := [⟨(some 64), .binOp .add 3 (.tmp (45 : Nat)) (.const (.int .i64 1)) 3, none⟩,
  ⟨(some 45), .move (.tmp (64 : Nat)), none⟩]
def condition_Spot_r18 : List SO := [⟨(some 65), .build 32 #[], none⟩,
  ⟨none, .store 32 (.tmp (6 : Nat)) (.tmp (65 : Nat)), none⟩,
  ⟨(some 7), .assign (.const (.int .i64 6)), none⟩]
def condition_Spot_c : SF := ⟨66, (.seq (.reg condition_Spot_r0)
  (.seq (.seq (.reg condition_Spot_r1)
  (.seq (.reg condition_Spot_r2)
  (.cond (.tmp (16 : Nat)) (.seq (.reg condition_Spot_r3)
  .ret) .skip)))
  (.seq (.seq (.reg condition_Spot_r4)
  (.block 0 (.loop (.seq (.reg condition_Spot_r5)
  (.seq (.cond (.tmp (23 : Nat)) .skip (.exit 0))
  (.seq (.block 1 (.seq (.reg condition_Spot_r6)
  (.seq (.reg condition_Spot_r7)
  (.cond (.tmp (29 : Nat)) (.seq (.reg condition_Spot_r8)
  (.seq (.reg condition_Spot_r9)
  (.seq (.reg condition_Spot_r10)
  .ret))) .skip))))
  (.reg condition_Spot_r11)))))))
  (.seq (.seq (.reg condition_Spot_r12)
  (.block 2 (.loop (.seq (.reg condition_Spot_r13)
  (.seq (.cond (.tmp (46 : Nat)) .skip (.exit 2))
  (.seq (.block 3 (.seq (.reg condition_Spot_r14)
  (.seq (.reg condition_Spot_r15)
  (.cond (.tmp (55 : Nat)) (.seq (.reg condition_Spot_r16)
  .ret) .skip))))
  (.reg condition_Spot_r17)))))))
  (.seq (.reg condition_Spot_r18)
  .ret))))), [.cell 6 32, .tmp 7]⟩
theorem condition_Spot_s : slimF Try.prog 14 = some condition_Spot_c := by kernel_rfl
abbrev condition_Spot_f : Nat := 14
/-- printworks/condition.Check -/
def condition_Check_r0 : List SO := [⟨(some 1), .box 28 (.tmp (0 : Nat)), none⟩,
  ⟨(some 2), .assign (.const (.int .i64 0)), none⟩]
def condition_Check_r1 : List SO := [⟨(some 12), .fieldAddr 28 (.tmp (1 : Nat)) 0, none⟩,
  ⟨(some 13), .load 22 (.tmp (12 : Nat)), none⟩,
  ⟨(some 14), .call ⟨(.builtin .len), #[(.tmp (13 : Nat))], #[22]⟩, none⟩,
  ⟨(some 3), .assign (.tmp (14 : Nat)), none⟩]
def condition_Check_r2 : List SO := [⟨(some 16), .move (.tmp (3 : Nat)), none⟩,
  ⟨(some 17), .binOp .gtr 3 (.tmp (16 : Nat)) (.const (.int .i64 8)) 3, none⟩,
  ⟨(some 15), .assign (.tmp (17 : Nat)), none⟩]
def condition_Check_r3 : List SO := [⟨(some 2), .assign (.const (.int .i64 2)), none⟩]
def condition_Check_r4 : List SO := [⟨(some 19), .move (.tmp (3 : Nat)), none⟩,
  ⟨(some 20), .binOp .eql 3 (.tmp (19 : Nat)) (.const (.int .i64 0)) 3, none⟩,
  ⟨(some 18), .assign (.tmp (20 : Nat)), none⟩]
def condition_Check_r5 : List SO := [⟨(some 2), .assign (.const (.int .i64 1)), none⟩]
def condition_Check_r6 : List SO := [⟨(some 21), .fieldAddr 28 (.tmp (1 : Nat)) 0, none⟩,
  ⟨(some 22), .load 22 (.tmp (21 : Nat)), none⟩,
  ⟨(some 23), .call ⟨(.value (.func (41 : Nat))), #[(.tmp (22 : Nat))], #[22]⟩, none⟩,
  ⟨(some 4), .assign (.tmp (23 : Nat)), none⟩]
def condition_Check_r7 : List SO := [⟨(some 24), .move (.tmp (4 : Nat)), none⟩,
  ⟨(some 25), .binOp .neq 33 (.tmp (24 : Nat)) (.const (.int .i64 0)) 33, none⟩]
def condition_Check_r8 : List SO := [⟨(some 26), .move (.tmp (4 : Nat)), none⟩,
  ⟨(some 2), .assign (.tmp (26 : Nat)), none⟩]
def condition_Check_r9 : List SO := [⟨(some 27), .fieldAddr 28 (.tmp (1 : Nat)) 1, none⟩,
  ⟨(some 28), .load 23 (.tmp (27 : Nat)), none⟩,
  ⟨(some 29), .call ⟨(.builtin .len), #[(.tmp (28 : Nat))], #[23]⟩, none⟩,
  ⟨(some 30), .binOp .neq 3 (.tmp (29 : Nat)) (.const (.int .i64 0)) 3, none⟩,
  ⟨(some 31), .move (.tmp (30 : Nat)), none⟩,
  ⟨(some 32), .fieldAddr 28 (.tmp (1 : Nat)) 1, (some (31, true))⟩,
  ⟨(some 33), .load 23 (.tmp (32 : Nat)), (some (31, true))⟩,
  ⟨(some 34), .call ⟨(.builtin .len), #[(.tmp (33 : Nat))], #[23]⟩, (some (31, true))⟩,
  ⟨(some 35), .binOp .neq 3 (.tmp (34 : Nat)) (.const (.int .i64 4)) 3, (some (31, true))⟩,
  ⟨(some 36), .pick (.tmp (31 : Nat)) (.tmp (35 : Nat)) (.const (.bool false)), none⟩,
  ⟨(some 37), .move (.tmp (36 : Nat)), none⟩,
  ⟨(some 38), .fieldAddr 28 (.tmp (1 : Nat)) 2, (some (37, false))⟩,
  ⟨(some 39), .load 23 (.tmp (38 : Nat)), (some (37, false))⟩,
  ⟨(some 40), .call ⟨(.builtin .len), #[(.tmp (39 : Nat))], #[23]⟩, (some (37, false))⟩,
  ⟨(some 41), .move (.tmp (3 : Nat)), (some (37, false))⟩,
  ⟨(some 42), .binOp .neq 3 (.tmp (40 : Nat)) (.tmp (41 : Nat)) 3, (some (37, false))⟩,
  ⟨(some 43), .pick (.tmp (37 : Nat)) (.const (.bool true)) (.tmp (42 : Nat)), none⟩]
def condition_Check_r10 : List SO := [⟨(some 2), .assign (.const (.int .i64 4)), none⟩]
def condition_Check_r11 : List SO := [⟨(some 44), .fieldAddr 28 (.tmp (1 : Nat)) 1, none⟩,
  ⟨(some 45), .load 23 (.tmp (44 : Nat)), none⟩,
  ⟨(some 46), .move (.tmp (3 : Nat)), none⟩,
  ⟨(some 47), .call ⟨(.value (.func (42 : Nat))), #[(.tmp (45 : Nat)), (.tmp (46 : Nat))], #[23, 3]⟩, none⟩,
  ⟨(some 5), .assign (.tmp (47 : Nat)), none⟩]
def condition_Check_r12 : List SO := [⟨(some 48), .move (.tmp (5 : Nat)), none⟩,
  ⟨(some 49), .binOp .neq 33 (.tmp (48 : Nat)) (.const (.int .i64 0)) 33, none⟩]
def condition_Check_r13 : List SO := [⟨(some 50), .move (.tmp (5 : Nat)), none⟩,
  ⟨(some 2), .assign (.tmp (50 : Nat)), none⟩]
def condition_Check_r14 : List SO := [⟨(some 51), .fieldAddr 28 (.tmp (1 : Nat)) 2, none⟩,
  ⟨(some 52), .load 23 (.tmp (51 : Nat)), none⟩,
  ⟨(some 53), .move (.tmp (3 : Nat)), none⟩,
  ⟨(some 54), .call ⟨(.value (.func (42 : Nat))), #[(.tmp (52 : Nat)), (.tmp (53 : Nat))], #[23, 3]⟩, none⟩,
  ⟨(some 6), .assign (.tmp (54 : Nat)), none⟩]
def condition_Check_r15 : List SO := [⟨(some 55), .move (.tmp (6 : Nat)), none⟩,
  ⟨(some 56), .binOp .neq 33 (.tmp (55 : Nat)) (.const (.int .i64 0)) 33, none⟩]
def condition_Check_r16 : List SO := [⟨(some 57), .move (.tmp (6 : Nat)), none⟩,
  ⟨(some 2), .assign (.tmp (57 : Nat)), none⟩]
def condition_Check_r17 : List SO := [⟨(some 58), .fieldAddr 28 (.tmp (1 : Nat)) 3, none⟩,
  ⟨(some 59), .load 25 (.tmp (58 : Nat)), none⟩,
  ⟨(some 60), .move (.tmp (3 : Nat)), none⟩,
  ⟨(some 61), .call ⟨(.value (.func (43 : Nat))), #[(.tmp (59 : Nat)), (.const (.int .i64 1)), (.tmp (60 : Nat))], #[25, 3, 3]⟩, none⟩,
  ⟨(some 7), .assign (.tmp (61 : Nat)), none⟩]
def condition_Check_r18 : List SO := [⟨(some 62), .move (.tmp (7 : Nat)), none⟩,
  ⟨(some 63), .binOp .neq 33 (.tmp (62 : Nat)) (.const (.int .i64 0)) 33, none⟩]
def condition_Check_r19 : List SO := [⟨(some 64), .move (.tmp (7 : Nat)), none⟩,
  ⟨(some 2), .assign (.tmp (64 : Nat)), none⟩]
def condition_Check_r20 : List SO := [⟨(some 65), .fieldAddr 28 (.tmp (1 : Nat)) 4, none⟩,
  ⟨(some 66), .load 25 (.tmp (65 : Nat)), none⟩,
  ⟨(some 67), .move (.tmp (3 : Nat)), none⟩,
  ⟨(some 68), .call ⟨(.value (.func (43 : Nat))), #[(.tmp (66 : Nat)), (.const (.int .i64 3)), (.tmp (67 : Nat))], #[25, 3, 3]⟩, none⟩,
  ⟨(some 8), .assign (.tmp (68 : Nat)), none⟩]
def condition_Check_r21 : List SO := [⟨(some 69), .move (.tmp (8 : Nat)), none⟩,
  ⟨(some 70), .binOp .neq 33 (.tmp (69 : Nat)) (.const (.int .i64 0)) 33, none⟩]
def condition_Check_r22 : List SO := [⟨(some 71), .move (.tmp (8 : Nat)), none⟩,
  ⟨(some 2), .assign (.tmp (71 : Nat)), none⟩]
def condition_Check_r23 : List SO := [⟨(some 72), .fieldAddr 28 (.tmp (1 : Nat)) 5, none⟩,
  ⟨(some 73), .load 26 (.tmp (72 : Nat)), none⟩,
  ⟨(some 74), .call ⟨(.value (.func (44 : Nat))), #[(.tmp (73 : Nat))], #[26]⟩, none⟩,
  ⟨(some 9), .assign (.tmp (74 : Nat)), none⟩]
def condition_Check_r24 : List SO := [⟨(some 75), .move (.tmp (9 : Nat)), none⟩,
  ⟨(some 76), .binOp .neq 33 (.tmp (75 : Nat)) (.const (.int .i64 0)) 33, none⟩]
def condition_Check_r25 : List SO := [⟨(some 77), .move (.tmp (9 : Nat)), none⟩,
  ⟨(some 2), .assign (.tmp (77 : Nat)), none⟩]
def condition_Check_r26 : List SO := [⟨(some 78), .fieldAddr 28 (.tmp (1 : Nat)) 5, none⟩,
  ⟨(some 79), .load 26 (.tmp (78 : Nat)), none⟩,
  ⟨(some 80), .call ⟨(.builtin .len), #[(.tmp (79 : Nat))], #[26]⟩, none⟩,
  ⟨(some 81), .move (.const (.int .i64 0)), none⟩]
def condition_Check_r27 : List SO := [⟨(some 82), .binOp .lss 3 (.tmp (81 : Nat)) (.tmp (80 : Nat)) 3, none⟩]
def condition_Check_r28 : List SO := [⟨(some 83), .indexAddr 26 (.tmp (79 : Nat)) (.tmp (81 : Nat)), none⟩,
  ⟨(some 84), .load 48 (.tmp (83 : Nat)), none⟩,
  ⟨(some 11), .alloc 48, none⟩,
  ⟨none, .store 48 (.tmp (11 : Nat)) (.tmp (84 : Nat)), none⟩]
def condition_Check_r29 : List SO := [⟨(some 85), .fieldAddr 48 (.tmp (11 : Nat)) 4, none⟩,
  ⟨(some 86), .load 23 (.tmp (85 : Nat)), none⟩,
  ⟨(some 87), .call ⟨(.builtin .len), #[(.tmp (86 : Nat))], #[23]⟩, none⟩,
  ⟨(some 88), .binOp .neq 3 (.tmp (87 : Nat)) (.const (.int .i64 4)) 3, none⟩,
  ⟨(some 89), .move (.tmp (88 : Nat)), none⟩,
  ⟨(some 90), .fieldAddr 28 (.tmp (1 : Nat)) 1, (some (89, false))⟩,
  ⟨(some 91), .load 23 (.tmp (90 : Nat)), (some (89, false))⟩,
  ⟨(some 92), .call ⟨(.builtin .len), #[(.tmp (91 : Nat))], #[23]⟩, (some (89, false))⟩,
  ⟨(some 93), .binOp .neq 3 (.tmp (92 : Nat)) (.const (.int .i64 4)) 3, (some (89, false))⟩,
  ⟨(some 94), .pick (.tmp (89 : Nat)) (.const (.bool true)) (.tmp (93 : Nat)), none⟩]
def condition_Check_r30 : List SO := [⟨(some 2), .assign (.const (.int .i64 4)), none⟩]
def condition_Check_r31 : List SO := [⟨(some 95), .binOp .add 3 (.tmp (81 : Nat)) (.const (.int .i64 1)) 3, none⟩,
  ⟨(some 81), .move (.tmp (95 : Nat)), none⟩]
def condition_Check_r32 : List SO := [⟨(some 96), .fieldAddr 28 (.tmp (1 : Nat)) 6, none⟩,
  ⟨(some 97), .load 3 (.tmp (96 : Nat)), none⟩,
  ⟨(some 98), .binOp .lss 3 (.tmp (97 : Nat)) (.const (.int .i64 0)) 3, none⟩,
  ⟨(some 99), .move (.tmp (98 : Nat)), none⟩,
  ⟨(some 100), .fieldAddr 28 (.tmp (1 : Nat)) 6, (some (99, false))⟩,
  ⟨(some 101), .load 3 (.tmp (100 : Nat)), (some (99, false))⟩,
  ⟨(some 102), .binOp .gtr 3 (.tmp (101 : Nat)) (.const (.int .i64 2040)) 3, (some (99, false))⟩,
  ⟨(some 103), .pick (.tmp (99 : Nat)) (.const (.bool true)) (.tmp (102 : Nat)), none⟩]
def condition_Check_r33 : List SO := [⟨(some 2), .assign (.const (.int .i64 3)), none⟩]
def condition_Check_r34 : List SO := [⟨(some 2), .assign (.const (.int .i64 0)), none⟩]
def condition_Check_c : SF := ⟨104, (.seq (.reg condition_Check_r0)
  (.seq (.reg condition_Check_r1)
  (.seq (.block 0 (.seq (.reg condition_Check_r2)
  (.cond (.tmp (15 : Nat)) (.seq (.reg condition_Check_r3)
  .ret) (.seq (.reg condition_Check_r4)
  (.cond (.tmp (18 : Nat)) (.seq (.reg condition_Check_r5)
  .ret) .skip)))))
  (.seq (.seq (.reg condition_Check_r6)
  (.seq (.reg condition_Check_r7)
  (.cond (.tmp (25 : Nat)) (.seq (.reg condition_Check_r8)
  .ret) .skip)))
  (.seq (.seq (.reg condition_Check_r9)
  (.cond (.tmp (43 : Nat)) (.seq (.reg condition_Check_r10)
  .ret) .skip))
  (.seq (.seq (.reg condition_Check_r11)
  (.seq (.reg condition_Check_r12)
  (.cond (.tmp (49 : Nat)) (.seq (.reg condition_Check_r13)
  .ret) .skip)))
  (.seq (.seq (.reg condition_Check_r14)
  (.seq (.reg condition_Check_r15)
  (.cond (.tmp (56 : Nat)) (.seq (.reg condition_Check_r16)
  .ret) .skip)))
  (.seq (.seq (.reg condition_Check_r17)
  (.seq (.reg condition_Check_r18)
  (.cond (.tmp (63 : Nat)) (.seq (.reg condition_Check_r19)
  .ret) .skip)))
  (.seq (.seq (.reg condition_Check_r20)
  (.seq (.reg condition_Check_r21)
  (.cond (.tmp (70 : Nat)) (.seq (.reg condition_Check_r22)
  .ret) .skip)))
  (.seq (.seq (.reg condition_Check_r23)
  (.seq (.reg condition_Check_r24)
  (.cond (.tmp (76 : Nat)) (.seq (.reg condition_Check_r25)
  .ret) .skip)))
  (.seq (.seq (.reg condition_Check_r26)
  (.block 1 (.loop (.seq (.reg condition_Check_r27)
  (.seq (.cond (.tmp (82 : Nat)) .skip (.exit 1))
  (.seq (.block 2 (.seq (.reg condition_Check_r28)
  (.seq (.reg condition_Check_r29)
  (.cond (.tmp (94 : Nat)) (.seq (.reg condition_Check_r30)
  .ret) .skip))))
  (.reg condition_Check_r31)))))))
  (.seq (.seq (.reg condition_Check_r32)
  (.cond (.tmp (103 : Nat)) (.seq (.reg condition_Check_r33)
  .ret) .skip))
  (.seq (.reg condition_Check_r34)
  .ret))))))))))))), [.tmp 2]⟩
theorem condition_Check_s : slimF Try.prog 15 = some condition_Check_c := by kernel_rfl
abbrev condition_Check_f : Nat := 15
/-- printworks/condition.from -/
def condition_from_r0 : List SO := [⟨(some 6), .alloc 32, none⟩]
def condition_from_r1 : List SO := [⟨(some 10), .move (.tmp (2 : Nat)), none⟩,
  ⟨(some 11), .call ⟨(.builtin .len), #[(.tmp (10 : Nat))], #[71]⟩, none⟩,
  ⟨(some 12), .makeSlice 23 (.tmp (11 : Nat)) (.tmp (11 : Nat)), none⟩,
  ⟨(some 7), .assign (.tmp (12 : Nat)), none⟩]
def condition_from_r2 : List SO := [⟨(some 13), .move (.tmp (2 : Nat)), none⟩,
  ⟨(some 14), .call ⟨(.builtin .len), #[(.tmp (13 : Nat))], #[71]⟩, none⟩,
  ⟨(some 15), .move (.const (.int .i64 0)), none⟩]
def condition_from_r3 : List SO := [⟨(some 16), .binOp .lss 3 (.tmp (15 : Nat)) (.tmp (14 : Nat)) 3, none⟩]
def condition_from_r4 : List SO := [⟨(some 17), .move (.tmp (15 : Nat)), none⟩,
  ⟨(some 18), .indexAddr 71 (.tmp (13 : Nat)) (.tmp (15 : Nat)), none⟩,
  ⟨(some 19), .load 5 (.tmp (18 : Nat)), none⟩,
  ⟨(some 8), .assign (.tmp (17 : Nat)), none⟩,
  ⟨(some 9), .assign (.tmp (19 : Nat)), none⟩]
def condition_from_r5 : List SO := [⟨(some 20), .move (.tmp (7 : Nat)), none⟩,
  ⟨(some 21), .move (.tmp (8 : Nat)), none⟩,
  ⟨(some 22), .move (.tmp (9 : Nat)), none⟩,
  ⟨(some 23), .convert 5 3 (.tmp (22 : Nat)), none⟩,
  ⟨(some 24), .indexAddr 23 (.tmp (20 : Nat)) (.tmp (21 : Nat)), none⟩,
  ⟨none, .store 3 (.tmp (24 : Nat)) (.tmp (23 : Nat)), none⟩]
def condition_from_r6 : List SO := [⟨(some 25), .binOp .add 3 (.tmp (15 : Nat)) (.const (.int .i64 1)) 3, none⟩,
  ⟨(some 15), .move (.tmp (25 : Nat)), none⟩]
def condition_from_r7 : List SO := [⟨(some 26), .move (.tmp (0 : Nat)), none⟩,
  ⟨(some 27), .move (.tmp (1 : Nat)), none⟩,
  ⟨(some 28), .move (.tmp (7 : Nat)), none⟩,
  ⟨(some 29), .call ⟨(.value (.func (49 : Nat))), #[(.tmp (27 : Nat)), (.tmp (28 : Nat))], #[82, 23]⟩, none⟩,
  ⟨(some 30), .call ⟨(.value (.func (39 : Nat))), #[(.tmp (26 : Nat)), (.tmp (29 : Nat))], #[81, 23]⟩, none⟩,
  ⟨none, .store 32 (.tmp (6 : Nat)) (.tmp (30 : Nat)), none⟩]
def condition_from_c : SF := ⟨31, (.seq (.reg condition_from_r0)
  (.seq (.reg condition_from_r1)
  (.seq (.seq (.reg condition_from_r2)
  (.block 0 (.loop (.seq (.reg condition_from_r3)
  (.seq (.cond (.tmp (16 : Nat)) .skip (.exit 0))
  (.seq (.block 1 (.seq (.reg condition_from_r4)
  (.reg condition_from_r5)))
  (.reg condition_from_r6)))))))
  (.seq (.reg condition_from_r7)
  .ret)))), [.cell 6 32]⟩
theorem condition_from_s : slimF Try.prog 37 = some condition_from_c := by kernel_rfl
/-- printworks/condition.placed -/
def condition_placed_r0 : List SO := [⟨(some 4), .alloc 32, none⟩]
def condition_placed_r1 : List SO := [⟨(some 8), .move (.tmp (0 : Nat)), none⟩,
  ⟨(some 9), .nilCheck (.tmp (8 : Nat)), none⟩,
  ⟨(some 10), .fieldAddr 28 (.tmp (9 : Nat)) 0, none⟩,
  ⟨(some 11), .load 22 (.tmp (10 : Nat)), none⟩,
  ⟨(some 12), .call ⟨(.builtin .len), #[(.tmp (11 : Nat))], #[22]⟩, none⟩,
  ⟨(some 13), .makeSlice 23 (.tmp (12 : Nat)) (.tmp (12 : Nat)), none⟩,
  ⟨(some 5), .assign (.tmp (13 : Nat)), none⟩]
def condition_placed_r2 : List SO := [⟨(some 14), .move (.tmp (1 : Nat)), none⟩,
  ⟨(some 15), .call ⟨(.builtin .len), #[(.tmp (14 : Nat))], #[23]⟩, none⟩,
  ⟨(some 16), .move (.const (.int .i64 0)), none⟩]
def condition_placed_r3 : List SO := [⟨(some 17), .binOp .lss 3 (.tmp (16 : Nat)) (.tmp (15 : Nat)) 3, none⟩]
def condition_placed_r4 : List SO := [⟨(some 18), .move (.tmp (16 : Nat)), none⟩,
  ⟨(some 19), .indexAddr 23 (.tmp (14 : Nat)) (.tmp (16 : Nat)), none⟩,
  ⟨(some 20), .load 3 (.tmp (19 : Nat)), none⟩,
  ⟨(some 6), .assign (.tmp (18 : Nat)), none⟩,
  ⟨(some 7), .assign (.tmp (20 : Nat)), none⟩]
def condition_placed_r5 : List SO := [⟨(some 21), .move (.tmp (5 : Nat)), none⟩,
  ⟨(some 22), .move (.tmp (0 : Nat)), none⟩,
  ⟨(some 23), .nilCheck (.tmp (22 : Nat)), none⟩,
  ⟨(some 24), .fieldAddr 28 (.tmp (23 : Nat)) 1, none⟩,
  ⟨(some 25), .load 23 (.tmp (24 : Nat)), none⟩,
  ⟨(some 26), .move (.tmp (6 : Nat)), none⟩,
  ⟨(some 27), .indexAddr 23 (.tmp (25 : Nat)) (.tmp (26 : Nat)), none⟩,
  ⟨(some 28), .load 3 (.tmp (27 : Nat)), none⟩,
  ⟨(some 29), .move (.tmp (7 : Nat)), none⟩,
  ⟨(some 30), .indexAddr 23 (.tmp (21 : Nat)) (.tmp (28 : Nat)), none⟩,
  ⟨none, .store 3 (.tmp (30 : Nat)) (.tmp (29 : Nat)), none⟩]
def condition_placed_r6 : List SO := [⟨(some 31), .binOp .add 3 (.tmp (16 : Nat)) (.const (.int .i64 1)) 3, none⟩,
  ⟨(some 16), .move (.tmp (31 : Nat)), none⟩]
def condition_placed_r7 : List SO := [⟨(some 32), .move (.tmp (0 : Nat)), none⟩,
  ⟨(some 33), .move (.tmp (5 : Nat)), none⟩,
  ⟨(some 34), .call ⟨(.value (.func (39 : Nat))), #[(.tmp (32 : Nat)), (.tmp (33 : Nat))], #[81, 23]⟩, none⟩,
  ⟨none, .store 32 (.tmp (4 : Nat)) (.tmp (34 : Nat)), none⟩]
def condition_placed_c : SF := ⟨35, (.seq (.reg condition_placed_r0)
  (.seq (.reg condition_placed_r1)
  (.seq (.seq (.reg condition_placed_r2)
  (.block 0 (.loop (.seq (.reg condition_placed_r3)
  (.seq (.cond (.tmp (17 : Nat)) .skip (.exit 0))
  (.seq (.block 1 (.seq (.reg condition_placed_r4)
  (.reg condition_placed_r5)))
  (.reg condition_placed_r6)))))))
  (.seq (.reg condition_placed_r7)
  .ret)))), [.cell 4 32]⟩
theorem condition_placed_s : slimF Try.prog 38 = some condition_placed_c := by kernel_rfl
abbrev condition_placed_f : Nat := 38
/-- printworks/condition.limited -/
def condition_limited_r0 : List SO := [⟨(some 4), .alloc 32, none⟩]
def condition_limited_r1 : List SO := [⟨(some 5), .assign (.const (.int .i64 (-1))), none⟩]
def condition_limited_r2 : List SO := [⟨(some 9), .move (.tmp (0 : Nat)), none⟩,
  ⟨(some 10), .nilCheck (.tmp (9 : Nat)), none⟩,
  ⟨(some 11), .fieldAddr 28 (.tmp (10 : Nat)) 1, none⟩,
  ⟨(some 12), .load 23 (.tmp (11 : Nat)), none⟩,
  ⟨(some 13), .call ⟨(.builtin .len), #[(.tmp (12 : Nat))], #[23]⟩, none⟩,
  ⟨(some 14), .binOp .eql 3 (.tmp (13 : Nat)) (.const (.int .i64 4)) 3, none⟩]
def condition_limited_r3 : List SO := [⟨(some 15), .move (.tmp (0 : Nat)), none⟩,
  ⟨(some 16), .nilCheck (.tmp (15 : Nat)), none⟩,
  ⟨(some 17), .fieldAddr 28 (.tmp (16 : Nat)) 1, none⟩,
  ⟨(some 18), .load 23 (.tmp (17 : Nat)), none⟩,
  ⟨(some 19), .indexAddr 23 (.tmp (18 : Nat)) (.const (.int .i64 3)), none⟩,
  ⟨(some 20), .load 3 (.tmp (19 : Nat)), none⟩,
  ⟨(some 5), .assign (.tmp (20 : Nat)), none⟩]
def condition_limited_r4 : List SO := [⟨(some 6), .alloc 32, none⟩]
def condition_limited_r5 : List SO := [⟨(some 21), .move (.tmp (1 : Nat)), none⟩,
  ⟨(some 22), .move (.tmp (5 : Nat)), none⟩,
  ⟨(some 23), .move (.tmp (0 : Nat)), none⟩,
  ⟨(some 24), .nilCheck (.tmp (23 : Nat)), none⟩,
  ⟨(some 25), .fieldAddr 28 (.tmp (24 : Nat)) 6, none⟩,
  ⟨(some 26), .load 3 (.tmp (25 : Nat)), none⟩,
  ⟨(some 27), .call ⟨(.value (.func (51 : Nat))), #[(.tmp (21 : Nat)), (.tmp (22 : Nat)), (.tmp (26 : Nat))], #[23, 3, 3]⟩, none⟩,
  ⟨(some 28), .call ⟨(.builtin .len), #[(.tmp (27 : Nat))], #[23]⟩, none⟩,
  ⟨(some 29), .move (.const (.int .i64 0)), none⟩]
def condition_limited_r6 : List SO := [⟨(some 30), .binOp .lss 3 (.tmp (29 : Nat)) (.tmp (28 : Nat)) 3, none⟩]
def condition_limited_r7 : List SO := [⟨(some 31), .move (.tmp (29 : Nat)), none⟩,
  ⟨(some 32), .indexAddr 23 (.tmp (27 : Nat)) (.tmp (29 : Nat)), none⟩,
  ⟨(some 33), .load 3 (.tmp (32 : Nat)), none⟩,
  ⟨(some 7), .assign (.tmp (31 : Nat)), none⟩,
  ⟨(some 8), .assign (.tmp (33 : Nat)), none⟩]
def condition_limited_r8 : List SO := [⟨(some 34), .move (.tmp (7 : Nat)), none⟩,
  ⟨(some 35), .move (.tmp (8 : Nat)), none⟩,
  ⟨(some 36), .convert 3 5 (.tmp (35 : Nat)), none⟩,
  ⟨(some 37), .indexAddr 32 (.tmp (6 : Nat)) (.tmp (34 : Nat)), none⟩,
  ⟨none, .store 5 (.tmp (37 : Nat)) (.tmp (36 : Nat)), none⟩]
def condition_limited_r9 : List SO := [⟨(some 38), .binOp .add 3 (.tmp (29 : Nat)) (.const (.int .i64 1)) 3, none⟩,
  ⟨(some 29), .move (.tmp (38 : Nat)), none⟩]
def condition_limited_r10 : List SO := [⟨(some 39), .load 32 (.tmp (6 : Nat)), none⟩,
  ⟨none, .store 32 (.tmp (4 : Nat)) (.tmp (39 : Nat)), none⟩]
def condition_limited_c : SF := ⟨40, (.seq (.reg condition_limited_r0)
  (.seq (.reg condition_limited_r1)
  (.seq (.seq (.reg condition_limited_r2)
  (.cond (.tmp (14 : Nat)) (.reg condition_limited_r3) .skip))
  (.seq (.reg condition_limited_r4)
  (.seq (.seq (.reg condition_limited_r5)
  (.block 0 (.loop (.seq (.reg condition_limited_r6)
  (.seq (.cond (.tmp (30 : Nat)) .skip (.exit 0))
  (.seq (.block 1 (.seq (.reg condition_limited_r7)
  (.reg condition_limited_r8)))
  (.reg condition_limited_r9)))))))
  (.seq (.reg condition_limited_r10)
  .ret)))))), [.cell 4 32]⟩
theorem condition_limited_s : slimF Try.prog 39 = some condition_limited_c := by kernel_rfl
abbrev condition_limited_f : Nat := 39
/-- printworks/condition.distinct -/
def condition_distinct_r0 : List SO := [⟨(some 4), .assign (.const (.int .i64 0)), none⟩]
def condition_distinct_r1 : List SO := [⟨(some 9), .move (.tmp (0 : Nat)), none⟩,
  ⟨(some 10), .call ⟨(.builtin .len), #[(.tmp (9 : Nat))], #[23]⟩, none⟩,
  ⟨(some 11), .move (.const (.int .i64 0)), none⟩]
def condition_distinct_r2 : List SO := [⟨(some 12), .binOp .lss 3 (.tmp (11 : Nat)) (.tmp (10 : Nat)) 3, none⟩]
def condition_distinct_r3 : List SO := [⟨(some 13), .move (.tmp (11 : Nat)), none⟩,
  ⟨(some 14), .indexAddr 23 (.tmp (9 : Nat)) (.tmp (11 : Nat)), none⟩,
  ⟨(some 15), .load 3 (.tmp (14 : Nat)), none⟩,
  ⟨(some 5), .assign (.tmp (13 : Nat)), none⟩,
  ⟨(some 6), .assign (.tmp (15 : Nat)), none⟩]
def condition_distinct_r4 : List SO := [⟨(some 16), .move (.tmp (6 : Nat)), none⟩,
  ⟨(some 17), .binOp .lss 3 (.tmp (16 : Nat)) (.const (.int .i64 0)) 3, none⟩,
  ⟨(some 18), .move (.tmp (17 : Nat)), none⟩,
  ⟨(some 19), .move (.tmp (6 : Nat)), (some (18, false))⟩,
  ⟨(some 20), .move (.tmp (1 : Nat)), (some (18, false))⟩,
  ⟨(some 21), .binOp .geq 3 (.tmp (19 : Nat)) (.tmp (20 : Nat)) 3, (some (18, false))⟩,
  ⟨(some 22), .pick (.tmp (18 : Nat)) (.const (.bool true)) (.tmp (21 : Nat)), none⟩]
def condition_distinct_r5 : List SO := [⟨(some 4), .assign (.const (.int .i64 3)), none⟩]
def condition_distinct_r6 : List SO := [⟨(some 23), .move (.tmp (0 : Nat)), none⟩,
  ⟨(some 24), .move (.tmp (5 : Nat)), none⟩,
  ⟨(some 25), .slice 23 (.tmp (23 : Nat)) none (some (.tmp (24 : Nat))) none, none⟩,
  ⟨(some 26), .call ⟨(.builtin .len), #[(.tmp (25 : Nat))], #[23]⟩, none⟩,
  ⟨(some 27), .move (.const (.int .i64 0)), none⟩]
def condition_distinct_r7 : List SO := [⟨(some 28), .binOp .lss 3 (.tmp (27 : Nat)) (.tmp (26 : Nat)) 3, none⟩]
def condition_distinct_r8 : List SO := [⟨(some 29), .indexAddr 23 (.tmp (25 : Nat)) (.tmp (27 : Nat)), none⟩,
  ⟨(some 30), .load 3 (.tmp (29 : Nat)), none⟩,
  ⟨(some 8), .assign (.tmp (30 : Nat)), none⟩]
def condition_distinct_r9 : List SO := [⟨(some 31), .move (.tmp (8 : Nat)), none⟩,
  ⟨(some 32), .move (.tmp (6 : Nat)), none⟩,
  ⟨(some 33), .binOp .eql 3 (.tmp (31 : Nat)) (.tmp (32 : Nat)) 3, none⟩]
def condition_distinct_r10 : List SO := [⟨(some 4), .assign (.const (.int .i64 7)), none⟩]
def condition_distinct_r11 : List SO := [⟨(some 34), .binOp .add 3 (.tmp (27 : Nat)) (.const (.int .i64 1)) 3, none⟩,
  ⟨(some 27), .move (.tmp (34 : Nat)), none⟩]
def condition_distinct_r12 : List SO := [⟨(some 35), .binOp .add 3 (.tmp (11 : Nat)) (.const (.int .i64 1)) 3, none⟩,
  ⟨(some 11), .move (.tmp (35 : Nat)), none⟩]
def condition_distinct_r13 : List SO := [⟨(some 4), .assign (.const (.int .i64 0)), none⟩]
def condition_distinct_c : SF := ⟨36, (.seq (.reg condition_distinct_r0)
  (.seq (.seq (.reg condition_distinct_r1)
  (.block 0 (.loop (.seq (.reg condition_distinct_r2)
  (.seq (.cond (.tmp (12 : Nat)) .skip (.exit 0))
  (.seq (.block 1 (.seq (.reg condition_distinct_r3)
  (.seq (.seq (.reg condition_distinct_r4)
  (.cond (.tmp (22 : Nat)) (.seq (.reg condition_distinct_r5)
  .ret) .skip))
  (.seq (.reg condition_distinct_r6)
  (.block 2 (.loop (.seq (.reg condition_distinct_r7)
  (.seq (.cond (.tmp (28 : Nat)) .skip (.exit 2))
  (.seq (.block 3 (.seq (.reg condition_distinct_r8)
  (.seq (.reg condition_distinct_r9)
  (.cond (.tmp (33 : Nat)) (.seq (.reg condition_distinct_r10)
  .ret) .skip))))
  (.reg condition_distinct_r11))))))))))
  (.reg condition_distinct_r12)))))))
  (.seq (.reg condition_distinct_r13)
  .ret))), [.tmp 4]⟩
theorem condition_distinct_s : slimF Try.prog 42 = some condition_distinct_c := by kernel_rfl
abbrev condition_distinct_f : Nat := 42
/-- printworks/condition.table -/
def condition_table_r0 : List SO := [⟨(some 3), .box 25 (.tmp (0 : Nat)), none⟩,
  ⟨(some 6), .assign (.const (.int .i64 0)), none⟩]
def condition_table_r1 : List SO := [⟨(some 8), .load 25 (.tmp (3 : Nat)), none⟩,
  ⟨(some 9), .call ⟨(.value (.func (47 : Nat))), #[(.tmp (8 : Nat))], #[25]⟩, none⟩,
  ⟨(some 7), .assign (.tmp (9 : Nat)), none⟩]
def condition_table_r2 : List SO := [⟨(some 10), .move (.tmp (7 : Nat)), none⟩,
  ⟨(some 11), .binOp .neq 33 (.tmp (10 : Nat)) (.const (.int .i64 0)) 33, none⟩]
def condition_table_r3 : List SO := [⟨(some 12), .move (.tmp (7 : Nat)), none⟩,
  ⟨(some 6), .assign (.tmp (12 : Nat)), none⟩]
def condition_table_r4 : List SO := [⟨(some 13), .fieldAddr 25 (.tmp (3 : Nat)) 0, none⟩,
  ⟨(some 14), .load 3 (.tmp (13 : Nat)), none⟩,
  ⟨(some 15), .move (.tmp (1 : Nat)), none⟩,
  ⟨(some 16), .binOp .neq 3 (.tmp (14 : Nat)) (.tmp (15 : Nat)) 3, none⟩,
  ⟨(some 17), .move (.tmp (16 : Nat)), none⟩,
  ⟨(some 18), .fieldAddr 25 (.tmp (3 : Nat)) 1, (some (17, false))⟩,
  ⟨(some 19), .load 3 (.tmp (18 : Nat)), (some (17, false))⟩,
  ⟨(some 20), .move (.tmp (2 : Nat)), (some (17, false))⟩,
  ⟨(some 21), .binOp .neq 3 (.tmp (19 : Nat)) (.tmp (20 : Nat)) 3, (some (17, false))⟩,
  ⟨(some 22), .pick (.tmp (17 : Nat)) (.const (.bool true)) (.tmp (21 : Nat)), none⟩]
def condition_table_r5 : List SO := [⟨(some 6), .assign (.const (.int .i64 4)), none⟩]
def condition_table_r6 : List SO := [⟨(some 6), .assign (.const (.int .i64 0)), none⟩]
def condition_table_c : SF := ⟨23, (.seq (.reg condition_table_r0)
  (.seq (.seq (.reg condition_table_r1)
  (.seq (.reg condition_table_r2)
  (.cond (.tmp (11 : Nat)) (.seq (.reg condition_table_r3)
  .ret) .skip)))
  (.seq (.seq (.reg condition_table_r4)
  (.cond (.tmp (22 : Nat)) (.seq (.reg condition_table_r5)
  .ret) .skip))
  (.seq (.reg condition_table_r6)
  .ret)))), [.tmp 6]⟩
theorem condition_table_s : slimF Try.prog 43 = some condition_table_c := by kernel_rfl
abbrev condition_table_f : Nat := 43

def tbl_condition : List (Nat × SF) := [(11, condition_Gray_c), (12, condition_RGB_c), (13, condition_Process_c), (14, condition_Spot_c), (15, condition_Check_c), (37, condition_from_c), (38, condition_placed_c), (39, condition_limited_c), (42, condition_distinct_c), (43, condition_table_c)]
theorem tbl_condition_ok : okT Try.prog tbl_condition := ⟨condition_Gray_s, condition_RGB_s, condition_Process_s, condition_Spot_s, condition_Check_s, condition_from_s, condition_placed_s, condition_limited_s, condition_distinct_s, condition_table_s, trivial⟩

end Go.Proofs.Ytogbkhopanaoiaa
namespace Go.Proofs.Ytogbkhopanaoiaa
open Go Go.Lite
set_option linter.unusedVariables false

/-- printworks/inklimit.Limit -/
def inklimit_Limit_r0 : List SO := [⟨(some 6), .assign (.const (.slice none 0 0)), none⟩,
  ⟨(some 7), .assign (.const (.int .i64 0)), none⟩]
def inklimit_Limit_r1 : List SO := [⟨(some 9), .move (.tmp (0 : Nat)), none⟩,
  ⟨(some 10), .call ⟨(.value (.func (50 : Nat))), #[(.tmp (9 : Nat))], #[23]⟩, none⟩,
  ⟨(some 8), .assign (.tmp (10 : Nat)), none⟩]
def inklimit_Limit_r2 : List SO := [⟨(some 11), .move (.tmp (8 : Nat)), none⟩,
  ⟨(some 12), .binOp .neq 33 (.tmp (11 : Nat)) (.const (.int .i64 0)) 33, none⟩]
def inklimit_Limit_r3 : List SO := [⟨(some 13), .move (.tmp (8 : Nat)), none⟩,
  ⟨(some 6), .assign (.const (.slice none 0 0)), none⟩,
  ⟨(some 7), .assign (.tmp (13 : Nat)), none⟩]
def inklimit_Limit_r4 : List SO := [⟨(some 14), .move (.tmp (1 : Nat)), none⟩,
  ⟨(some 15), .binOp .lss 3 (.tmp (14 : Nat)) (.const (.int .i64 (-1))) 3, none⟩,
  ⟨(some 16), .move (.tmp (15 : Nat)), none⟩,
  ⟨(some 17), .move (.tmp (1 : Nat)), (some (16, false))⟩,
  ⟨(some 18), .move (.tmp (0 : Nat)), (some (16, false))⟩,
  ⟨(some 19), .call ⟨(.builtin .len), #[(.tmp (18 : Nat))], #[23]⟩, (some (16, false))⟩,
  ⟨(some 20), .binOp .geq 3 (.tmp (17 : Nat)) (.tmp (19 : Nat)) 3, (some (16, false))⟩,
  ⟨(some 21), .pick (.tmp (16 : Nat)) (.const (.bool true)) (.tmp (20 : Nat)), none⟩,
  ⟨(some 22), .move (.tmp (21 : Nat)), none⟩,
  ⟨(some 23), .move (.tmp (2 : Nat)), (some (22, false))⟩,
  ⟨(some 24), .binOp .lss 3 (.tmp (23 : Nat)) (.const (.int .i64 0)) 3, (some (22, false))⟩,
  ⟨(some 25), .pick (.tmp (22 : Nat)) (.const (.bool true)) (.tmp (24 : Nat)), none⟩,
  ⟨(some 26), .move (.tmp (25 : Nat)), none⟩,
  ⟨(some 27), .move (.tmp (2 : Nat)), (some (26, false))⟩,
  ⟨(some 28), .binOp .gtr 3 (.tmp (27 : Nat)) (.const (.int .i64 2040)) 3, (some (26, false))⟩,
  ⟨(some 29), .pick (.tmp (26 : Nat)) (.const (.bool true)) (.tmp (28 : Nat)), none⟩]
def inklimit_Limit_r5 : List SO := [⟨(some 6), .assign (.const (.slice none 0 0)), none⟩,
  ⟨(some 7), .assign (.const (.int .i64 3)), none⟩]
def inklimit_Limit_r6 : List SO := [⟨(some 30), .move (.tmp (0 : Nat)), none⟩,
  ⟨(some 31), .move (.tmp (1 : Nat)), none⟩,
  ⟨(some 32), .move (.tmp (2 : Nat)), none⟩,
  ⟨(some 33), .call ⟨(.value (.func (51 : Nat))), #[(.tmp (30 : Nat)), (.tmp (31 : Nat)), (.tmp (32 : Nat))], #[23, 3, 3]⟩, none⟩,
  ⟨(some 6), .assign (.tmp (33 : Nat)), none⟩,
  ⟨(some 7), .assign (.const (.int .i64 0)), none⟩]
def inklimit_Limit_c : SF := ⟨34, (.seq (.reg inklimit_Limit_r0)
  (.seq (.seq (.reg inklimit_Limit_r1)
  (.seq (.reg inklimit_Limit_r2)
  (.cond (.tmp (12 : Nat)) (.seq (.reg inklimit_Limit_r3)
  .ret) .skip)))
  (.seq (.seq (.reg inklimit_Limit_r4)
  (.cond (.tmp (29 : Nat)) (.seq (.reg inklimit_Limit_r5)
  .ret) .skip))
  (.seq (.reg inklimit_Limit_r6)
  .ret)))), [.tmp 6, .tmp 7]⟩
theorem inklimit_Limit_s : slimF Try.prog 19 = some inklimit_Limit_c := by kernel_rfl
/-- printworks/inklimit.check -/
def inklimit_check_r0 : List SO := [⟨(some 2), .assign (.const (.int .i64 0)), none⟩]
def inklimit_check_r1 : List SO := [⟨(some 3), .move (.tmp (0 : Nat)), none⟩,
  ⟨(some 4), .call ⟨(.builtin .len), #[(.tmp (3 : Nat))], #[23]⟩, none⟩,
  ⟨(some 5), .binOp .gtr 3 (.tmp (4 : Nat)) (.const (.int .i64 8)) 3, none⟩]
def inklimit_check_r2 : List SO := [⟨(some 2), .assign (.const (.int .i64 2)), none⟩]
def inklimit_check_r3 : List SO := [⟨(some 6), .move (.tmp (0 : Nat)), none⟩,
  ⟨(some 7), .move (.tmp (0 : Nat)), none⟩,
  ⟨(some 8), .call ⟨(.builtin .len), #[(.tmp (7 : Nat))], #[23]⟩, none⟩,
  ⟨(some 9), .call ⟨(.value (.func (48 : Nat))), #[(.tmp (6 : Nat)), (.tmp (8 : Nat))], #[23, 3]⟩, none⟩,
  ⟨(some 2), .assign (.tmp (9 : Nat)), none⟩]
def inklimit_check_c : SF := ⟨10, (.seq (.reg inklimit_check_r0)
  (.seq (.seq (.reg inklimit_check_r1)
  (.cond (.tmp (5 : Nat)) (.seq (.reg inklimit_check_r2)
  .ret) .skip))
  (.seq (.reg inklimit_check_r3)
  .ret))), [.tmp 2]⟩
theorem inklimit_check_s : slimF Try.prog 50 = some inklimit_check_c := by kernel_rfl
/-- printworks/inklimit.Quick -/
def inklimit_Quick_r0 : List SO := [⟨(some 6), .assign (.const (.slice none 0 0)), none⟩]
def inklimit_Quick_r1 : List SO := [⟨(some 12), .move (.tmp (0 : Nat)), none⟩,
  ⟨(some 13), .call ⟨(.builtin .append), #[(.const (.slice none 0 0)), (.tmp (12 : Nat))], #[23, 23]⟩, none⟩,
  ⟨(some 7), .assign (.tmp (13 : Nat)), none⟩]
def inklimit_Quick_r2 : List SO := [⟨(some 14), .move (.tmp (0 : Nat)), none⟩,
  ⟨(some 15), .call ⟨(.value (.func (79 : Nat))), #[(.tmp (14 : Nat))], #[23]⟩, none⟩,
  ⟨(some 8), .assign (.tmp (15 : Nat)), none⟩]
def inklimit_Quick_r3 : List SO := [⟨(some 16), .move (.tmp (8 : Nat)), none⟩,
  ⟨(some 17), .move (.tmp (2 : Nat)), none⟩,
  ⟨(some 18), .binOp .leq 3 (.tmp (16 : Nat)) (.tmp (17 : Nat)) 3, none⟩]
def inklimit_Quick_r4 : List SO := [⟨(some 19), .move (.tmp (7 : Nat)), none⟩,
  ⟨(some 6), .assign (.tmp (19 : Nat)), none⟩]
def inklimit_Quick_r5 : List SO := [⟨(some 9), .assign (.const (.int .i64 0)), none⟩]
def inklimit_Quick_r6 : List SO := [⟨(some 20), .move (.tmp (1 : Nat)), none⟩,
  ⟨(some 21), .binOp .geq 3 (.tmp (20 : Nat)) (.const (.int .i64 0)) 3, none⟩]
def inklimit_Quick_r7 : List SO := [⟨(some 22), .move (.tmp (0 : Nat)), none⟩,
  ⟨(some 23), .move (.tmp (1 : Nat)), none⟩,
  ⟨(some 24), .indexAddr 23 (.tmp (22 : Nat)) (.tmp (23 : Nat)), none⟩,
  ⟨(some 25), .load 3 (.tmp (24 : Nat)), none⟩,
  ⟨(some 26), .move (.tmp (2 : Nat)), none⟩,
  ⟨(some 27), .call ⟨(.builtin .min), #[(.tmp (25 : Nat)), (.tmp (26 : Nat))], #[3, 3]⟩, none⟩,
  ⟨(some 9), .assign (.tmp (27 : Nat)), none⟩]
def inklimit_Quick_r8 : List SO := [⟨(some 28), .move (.tmp (8 : Nat)), none⟩,
  ⟨(some 29), .move (.tmp (0 : Nat)), none⟩,
  ⟨(some 30), .move (.tmp (1 : Nat)), none⟩,
  ⟨(some 31), .indexAddr 23 (.tmp (29 : Nat)) (.tmp (30 : Nat)), none⟩,
  ⟨(some 32), .load 3 (.tmp (31 : Nat)), none⟩,
  ⟨(some 33), .binOp .sub 3 (.tmp (28 : Nat)) (.tmp (32 : Nat)) 3, none⟩,
  ⟨(some 8), .assign (.tmp (33 : Nat)), none⟩]
def inklimit_Quick_r9 : List SO := [⟨(some 34), .move (.tmp (0 : Nat)), none⟩,
  ⟨(some 35), .call ⟨(.builtin .len), #[(.tmp (34 : Nat))], #[23]⟩, none⟩,
  ⟨(some 36), .move (.const (.int .i64 0)), none⟩]
def inklimit_Quick_r10 : List SO := [⟨(some 37), .binOp .lss 3 (.tmp (36 : Nat)) (.tmp (35 : Nat)) 3, none⟩]
def inklimit_Quick_r11 : List SO := [⟨(some 38), .move (.tmp (36 : Nat)), none⟩,
  ⟨(some 39), .indexAddr 23 (.tmp (34 : Nat)) (.tmp (36 : Nat)), none⟩,
  ⟨(some 40), .load 3 (.tmp (39 : Nat)), none⟩,
  ⟨(some 10), .assign (.tmp (38 : Nat)), none⟩,
  ⟨(some 11), .assign (.tmp (40 : Nat)), none⟩]
def inklimit_Quick_r12 : List SO := [⟨(some 57), .move (.tmp (10 : Nat)), none⟩,
  ⟨(some 58), .move (.tmp (1 : Nat)), none⟩,
  ⟨(some 59), .binOp .eql 3 (.tmp (57 : Nat)) (.tmp (58 : Nat)) 3, none⟩,
  ⟨(some 56), .assign (.tmp (59 : Nat)), none⟩]
def inklimit_Quick_r13 : List SO := [⟨(some 60), .move (.tmp (7 : Nat)), none⟩,
  ⟨(some 61), .move (.tmp (10 : Nat)), none⟩,
  ⟨(some 62), .move (.tmp (9 : Nat)), none⟩,
  ⟨(some 63), .indexAddr 23 (.tmp (60 : Nat)) (.tmp (61 : Nat)), none⟩,
  ⟨none, .store 3 (.tmp (63 : Nat)) (.tmp (62 : Nat)), none⟩]
def inklimit_Quick_r14 : List SO := [⟨(some 41), .move (.tmp (7 : Nat)), none⟩,
  ⟨(some 42), .move (.tmp (10 : Nat)), none⟩,
  ⟨(some 43), .indexAddr 23 (.tmp (41 : Nat)) (.tmp (42 : Nat)), none⟩,
  ⟨none, .store 3 (.tmp (43 : Nat)) (.const (.int .i64 0)), none⟩]
def inklimit_Quick_r15 : List SO := [⟨(some 44), .move (.tmp (8 : Nat)), none⟩,
  ⟨(some 45), .binOp .gtr 3 (.tmp (44 : Nat)) (.const (.int .i64 0)) 3, none⟩]
def inklimit_Quick_r16 : List SO := [⟨(some 46), .move (.tmp (7 : Nat)), none⟩,
  ⟨(some 47), .move (.tmp (10 : Nat)), none⟩,
  ⟨(some 48), .move (.tmp (11 : Nat)), none⟩,
  ⟨(some 49), .move (.tmp (2 : Nat)), none⟩,
  ⟨(some 50), .move (.tmp (9 : Nat)), none⟩,
  ⟨(some 51), .binOp .sub 3 (.tmp (49 : Nat)) (.tmp (50 : Nat)) 3, none⟩,
  ⟨(some 52), .binOp .mul 3 (.tmp (48 : Nat)) (.tmp (51 : Nat)) 3, none⟩,
  ⟨(some 53), .move (.tmp (8 : Nat)), none⟩,
  ⟨(some 54), .binOp .quo 3 (.tmp (52 : Nat)) (.tmp (53 : Nat)) 3, none⟩,
  ⟨(some 55), .indexAddr 23 (.tmp (46 : Nat)) (.tmp (47 : Nat)), none⟩,
  ⟨none, .store 3 (.tmp (55 : Nat)) (.tmp (54 : Nat)), none⟩]
def inklimit_Quick_r17 : List SO := [⟨(some 64), .binOp .add 3 (.tmp (36 : Nat)) (.const (.int .i64 1)) 3, none⟩,
  ⟨(some 36), .move (.tmp (64 : Nat)), none⟩]
def inklimit_Quick_r18 : List SO := [⟨(some 65), .move (.tmp (7 : Nat)), none⟩,
  ⟨(some 6), .assign (.tmp (65 : Nat)), none⟩]
def inklimit_Quick_c : SF := ⟨66, (.seq (.reg inklimit_Quick_r0)
  (.seq (.reg inklimit_Quick_r1)
  (.seq (.reg inklimit_Quick_r2)
  (.seq (.seq (.reg inklimit_Quick_r3)
  (.cond (.tmp (18 : Nat)) (.seq (.reg inklimit_Quick_r4)
  .ret) .skip))
  (.seq (.reg inklimit_Quick_r5)
  (.seq (.seq (.reg inklimit_Quick_r6)
  (.cond (.tmp (21 : Nat)) (.seq (.reg inklimit_Quick_r7)
  (.reg inklimit_Quick_r8)) .skip))
  (.seq (.seq (.reg inklimit_Quick_r9)
  (.block 0 (.loop (.seq (.reg inklimit_Quick_r10)
  (.seq (.cond (.tmp (37 : Nat)) .skip (.exit 0))
  (.seq (.block 1 (.seq (.reg inklimit_Quick_r11)
  (.block 2 (.seq (.reg inklimit_Quick_r12)
  (.cond (.tmp (56 : Nat)) (.reg inklimit_Quick_r13) (.seq (.reg inklimit_Quick_r14)
  (.seq (.reg inklimit_Quick_r15)
  (.cond (.tmp (45 : Nat)) (.reg inklimit_Quick_r16) .skip))))))))
  (.reg inklimit_Quick_r17)))))))
  (.seq (.reg inklimit_Quick_r18)
  .ret)))))))), [.tmp 6]⟩
theorem inklimit_Quick_s : slimF Try.prog 51 = some inklimit_Quick_c := by kernel_rfl
abbrev inklimit_Quick_f : Nat := 51
/-- printworks/inklimit.sum -/
def inklimit_sum_r0 : List SO := [⟨(some 2), .assign (.const (.int .i64 0)), none⟩]
def inklimit_sum_r1 : List SO := [⟨(some 3), .assign (.const (.int .i64 0)), none⟩]
def inklimit_sum_r2 : List SO := [⟨(some 6), .move (.tmp (0 : Nat)), none⟩,
  ⟨(some 7), .call ⟨(.builtin .len), #[(.tmp (6 : Nat))], #[23]⟩, none⟩,
  ⟨(some 8), .move (.const (.int .i64 0)), none⟩]
def inklimit_sum_r3 : List SO := [⟨(some 9), .binOp .lss 3 (.tmp (8 : Nat)) (.tmp (7 : Nat)) 3, none⟩]
def inklimit_sum_r4 : List SO := [⟨(some 10), .indexAddr 23 (.tmp (6 : Nat)) (.tmp (8 : Nat)), none⟩,
  ⟨(some 11), .load 3 (.tmp (10 : Nat)), none⟩,
  ⟨(some 5), .assign (.tmp (11 : Nat)), none⟩]
def inklimit_sum_r5 : List SO := [⟨(some 12), .move (.tmp (3 : Nat)), none⟩,
  ⟨(some 13), .move (.tmp (5 : Nat)), none⟩,
  ⟨(some 14), .binOp .add 3 (.tmp (12 : Nat)) (.tmp (13 : Nat)) 3, none⟩,
  ⟨(some 3), .assign (.tmp (14 : Nat)), none⟩]
def inklimit_sum_r6 : List SO := [⟨(some 15), .binOp .add 3 (.tmp (8 : Nat)) (.const (.int .i64 1)) 3, none⟩,
  ⟨(some 8), .move (.tmp (15 : Nat)), none⟩]
def inklimit_sum_r7 : List SO := [⟨(some 16), .move (.tmp (3 : Nat)), none⟩,
  ⟨(some 2), .assign (.tmp (16 : Nat)), none⟩]
def inklimit_sum_c : SF := ⟨17, (.seq (.reg inklimit_sum_r0)
  (.seq (.reg inklimit_sum_r1)
  (.seq (.seq (.reg inklimit_sum_r2)
  (.block 0 (.loop (.seq (.reg inklimit_sum_r3)
  (.seq (.cond (.tmp (9 : Nat)) .skip (.exit 0))
  (.seq (.block 1 (.seq (.reg inklimit_sum_r4)
  (.reg inklimit_sum_r5)))
  (.reg inklimit_sum_r6)))))))
  (.seq (.reg inklimit_sum_r7)
  .ret)))), [.tmp 2]⟩
theorem inklimit_sum_s : slimF Try.prog 79 = some inklimit_sum_c := by kernel_rfl
abbrev inklimit_sum_f : Nat := 79

def tbl_inklimit : List (Nat × SF) := [(19, inklimit_Limit_c), (50, inklimit_check_c), (51, inklimit_Quick_c), (79, inklimit_sum_c)]
theorem tbl_inklimit_ok : okT Try.prog tbl_inklimit := ⟨inklimit_Limit_s, inklimit_check_s, inklimit_Quick_s, inklimit_sum_s, trivial⟩

end Go.Proofs.Ytogbkhopanaoiaa
namespace Go.Proofs.Ytogbkhopanaoiaa
open Go Go.Lite
set_option linter.unusedVariables false

/-- printworks/printworkskeep2.conditionWorks -/
def K2_conditionWorks_r0 : List SO := [⟨(some 0), .assign (.const (.bool false)), none⟩]
def K2_conditionWorks_r1 : List SO := [⟨(some 10), .call ⟨(.value (.func (36 : Nat))), #[], #[]⟩, none⟩,
  ⟨(some 11), .call ⟨(.value (.func (11 : Nat))), #[(.tmp (10 : Nat)), (.const (.int .u8 64))], #[28, 5]⟩, none⟩,
  ⟨(some 9), .move (.tmp (11 : Nat)), none⟩,
  ⟨(some 12), .extract (.tmp (9 : Nat)) 0, none⟩,
  ⟨(some 13), .extract (.tmp (9 : Nat)) 1, none⟩,
  ⟨(some 1), .alloc 32, none⟩,
  ⟨none, .store 32 (.tmp (1 : Nat)) (.tmp (12 : Nat)), none⟩,
  ⟨(some 2), .assign (.tmp (13 : Nat)), none⟩]
def K2_conditionWorks_r2 : List SO := [⟨(some 15), .call ⟨(.value (.func (36 : Nat))), #[], #[]⟩, none⟩,
  ⟨(some 16), .call ⟨(.value (.func (11 : Nat))), #[(.tmp (15 : Nat)), (.const (.int .u8 0))], #[28, 5]⟩, none⟩,
  ⟨(some 14), .move (.tmp (16 : Nat)), none⟩,
  ⟨(some 17), .extract (.tmp (14 : Nat)) 0, none⟩,
  ⟨(some 18), .extract (.tmp (14 : Nat)) 1, none⟩,
  ⟨(some 3), .alloc 32, none⟩,
  ⟨none, .store 32 (.tmp (3 : Nat)) (.tmp (17 : Nat)), none⟩,
  ⟨(some 4), .assign (.tmp (18 : Nat)), none⟩]
def K2_conditionWorks_r3 : List SO := [⟨(some 20), .call ⟨(.value (.func (36 : Nat))), #[], #[]⟩, none⟩,
  ⟨(some 21), .build 29 #[], none⟩,
  ⟨(some 22), .call ⟨(.value (.func (13 : Nat))), #[(.tmp (20 : Nat)), (.tmp (21 : Nat))], #[28, 29]⟩, none⟩,
  ⟨(some 19), .move (.tmp (22 : Nat)), none⟩,
  ⟨(some 23), .extract (.tmp (19 : Nat)) 0, none⟩,
  ⟨(some 24), .extract (.tmp (19 : Nat)) 1, none⟩,
  ⟨(some 5), .alloc 32, none⟩,
  ⟨none, .store 32 (.tmp (5 : Nat)) (.tmp (23 : Nat)), none⟩,
  ⟨(some 6), .assign (.tmp (24 : Nat)), none⟩]
def K2_conditionWorks_r4 : List SO := [⟨(some 26), .call ⟨(.value (.func (36 : Nat))), #[], #[]⟩, none⟩,
  ⟨(some 27), .call ⟨(.value (.func (14 : Nat))), #[(.tmp (26 : Nat)), (.const (.string ⟨([98, 108, 97, 99, 107] : List UInt8).toArray⟩)), (.const (.int .u8 7))], #[28, 9, 5]⟩, none⟩,
  ⟨(some 25), .move (.tmp (27 : Nat)), none⟩,
  ⟨(some 28), .extract (.tmp (25 : Nat)) 0, none⟩,
  ⟨(some 29), .extract (.tmp (25 : Nat)) 1, none⟩,
  ⟨(some 7), .alloc 32, none⟩,
  ⟨none, .store 32 (.tmp (7 : Nat)) (.tmp (28 : Nat)), none⟩,
  ⟨(some 8), .assign (.tmp (29 : Nat)), none⟩]
def K2_conditionWorks_r5 : List SO := [⟨(some 30), .move (.tmp (2 : Nat)), none⟩,
  ⟨(some 31), .binOp .eql 33 (.tmp (30 : Nat)) (.const (.int .i64 0)) 33, none⟩,
  ⟨(some 32), .move (.tmp (31 : Nat)), none⟩,
  ⟨(some 33), .load 32 (.tmp (1 : Nat)), (some (32, true))⟩,
  ⟨(some 34), .build 32 #[(0, (.const (.int .u8 191)))], (some (32, true))⟩,
  ⟨(some 35), .binOp .eql 32 (.tmp (33 : Nat)) (.tmp (34 : Nat)) 32, (some (32, true))⟩,
  ⟨(some 36), .pick (.tmp (32 : Nat)) (.tmp (35 : Nat)) (.const (.bool false)), none⟩,
  ⟨(some 37), .move (.tmp (36 : Nat)), none⟩,
  ⟨(some 38), .move (.tmp (4 : Nat)), (some (37, true))⟩,
  ⟨(some 39), .binOp .eql 33 (.tmp (38 : Nat)) (.const (.int .i64 0)) 33, (some (37, true))⟩,
  ⟨(some 40), .pick (.tmp (37 : Nat)) (.tmp (39 : Nat)) (.const (.bool false)), none⟩,
  ⟨(some 41), .move (.tmp (40 : Nat)), none⟩,
  ⟨(some 42), .load 32 (.tmp (3 : Nat)), (some (41, true))⟩,
  ⟨(some 43), .build 32 #[(0, (.const (.int .u8 200)))], (some (41, true))⟩,
  ⟨(some 44), .binOp .eql 32 (.tmp (42 : Nat)) (.tmp (43 : Nat)) 32, (some (41, true))⟩,
  ⟨(some 45), .pick (.tmp (41 : Nat)) (.tmp (44 : Nat)) (.const (.bool false)), none⟩,
  ⟨(some 46), .move (.tmp (45 : Nat)), none⟩,
  ⟨(some 47), .move (.tmp (6 : Nat)), (some (46, true))⟩,
  ⟨(some 48), .binOp .eql 33 (.tmp (47 : Nat)) (.const (.int .i64 8)) 33, (some (46, true))⟩,
  ⟨(some 49), .pick (.tmp (46 : Nat)) (.tmp (48 : Nat)) (.const (.bool false)), none⟩,
  ⟨(some 50), .move (.tmp (49 : Nat)), none⟩,
  ⟨(some 51), .move (.tmp (8 : Nat)), (some (50, true))⟩,
  ⟨(some 52), .binOp .eql 33 (.tmp (51 : Nat)) (.const (.int .i64 0)) 33, (some (50, true))⟩,
  ⟨(some 53), .pick (.tmp (50 : Nat)) (.tmp (52 : Nat)) (.const (.bool false)), none⟩,
  ⟨(some 54), .move (.tmp (53 : Nat)), none⟩,
  ⟨(some 55), .load 32 (.tmp (7 : Nat)), (some (54, true))⟩,
  ⟨(some 56), .build 32 #[(0, (.const (.int .u8 7)))], (some (54, true))⟩,
  ⟨(some 57), .binOp .eql 32 (.tmp (55 : Nat)) (.tmp (56 : Nat)) 32, (some (54, true))⟩,
  ⟨(some 58), .pick (.tmp (54 : Nat)) (.tmp (57 : Nat)) (.const (.bool false)), none⟩,
  ⟨(some 0), .assign (.tmp (58 : Nat)), none⟩]
def K2_conditionWorks_c : SF := ⟨59, (.seq (.reg K2_conditionWorks_r0)
  (.seq (.reg K2_conditionWorks_r1)
  (.seq (.reg K2_conditionWorks_r2)
  (.seq (.reg K2_conditionWorks_r3)
  (.seq (.reg K2_conditionWorks_r4)
  (.seq (.reg K2_conditionWorks_r5)
  .ret)))))), [.tmp 0]⟩
theorem K2_conditionWorks_s : slimF Try.prog 10 = some K2_conditionWorks_c := by kernel_rfl
abbrev K2_conditionWorks_f : Nat := 10
/-- printworks/printworkskeep2.devicelinkWorks -/
def K2_devicelinkWorks_r0 : List SO := [⟨(some 0), .assign (.const (.bool false)), none⟩]
def K2_devicelinkWorks_r1 : List SO := [⟨(some 6), .call ⟨(.value (.func (52 : Nat))), #[(.const (.int .i64 0)), (.const (.int .i64 65280))], #[3, 3]⟩, none⟩,
  ⟨(some 7), .buildSlice 23 1 #[(0, (.const (.int .i64 100)))], none⟩,
  ⟨(some 8), .call ⟨(.value (.func (18 : Nat))), #[(.tmp (6 : Nat)), (.tmp (7 : Nat))], #[25, 23]⟩, none⟩,
  ⟨(some 5), .move (.tmp (8 : Nat)), none⟩,
  ⟨(some 9), .extract (.tmp (5 : Nat)) 0, none⟩,
  ⟨(some 10), .extract (.tmp (5 : Nat)) 1, none⟩,
  ⟨(some 1), .assign (.tmp (9 : Nat)), none⟩,
  ⟨(some 2), .assign (.tmp (10 : Nat)), none⟩]
def K2_devicelinkWorks_r2 : List SO := [⟨(some 12), .call ⟨(.value (.func (54 : Nat))), #[], #[]⟩, none⟩,
  ⟨(some 13), .call ⟨(.value (.func (54 : Nat))), #[], #[]⟩, none⟩,
  ⟨(some 14), .build 100 #[(0, (.const (.int .i64 2))), (1, (.const (.int .i64 255))), (2, (.const (.int .i64 255)))], none⟩,
  ⟨(some 15), .call ⟨(.value (.func (53 : Nat))), #[(.tmp (12 : Nat)), (.tmp (13 : Nat)), (.tmp (14 : Nat))], #[62, 62, 100]⟩, none⟩,
  ⟨(some 11), .move (.tmp (15 : Nat)), none⟩,
  ⟨(some 16), .extract (.tmp (11 : Nat)) 0, none⟩,
  ⟨(some 17), .extract (.tmp (11 : Nat)) 1, none⟩,
  ⟨(some 3), .alloc 25, none⟩,
  ⟨none, .store 25 (.tmp (3 : Nat)) (.tmp (16 : Nat)), none⟩,
  ⟨(some 4), .assign (.tmp (17 : Nat)), none⟩]
def K2_devicelinkWorks_r3 : List SO := [⟨(some 18), .move (.tmp (2 : Nat)), none⟩,
  ⟨(some 19), .binOp .eql 33 (.tmp (18 : Nat)) (.const (.int .i64 0)) 33, none⟩,
  ⟨(some 20), .move (.tmp (19 : Nat)), none⟩,
  ⟨(some 21), .move (.tmp (1 : Nat)), (some (20, true))⟩,
  ⟨(some 22), .buildSlice 23 1 #[(0, (.const (.int .i64 100)))], (some (20, true))⟩,
  ⟨(some 23), .call ⟨(.value (.func (24 : Nat))), #[(.tmp (21 : Nat)), (.tmp (22 : Nat))], #[23, 23]⟩, (some (20, true))⟩,
  ⟨(some 24), .pick (.tmp (20 : Nat)) (.tmp (23 : Nat)) (.const (.bool false)), none⟩,
  ⟨(some 25), .move (.tmp (24 : Nat)), none⟩,
  ⟨(some 26), .move (.tmp (4 : Nat)), (some (25, true))⟩,
  ⟨(some 27), .binOp .eql 33 (.tmp (26 : Nat)) (.const (.int .i64 0)) 33, (some (25, true))⟩,
  ⟨(some 28), .pick (.tmp (25 : Nat)) (.tmp (27 : Nat)) (.const (.bool false)), none⟩,
  ⟨(some 29), .move (.tmp (28 : Nat)), none⟩,
  ⟨(some 30), .load 25 (.tmp (3 : Nat)), (some (29, true))⟩,
  ⟨(some 31), .call ⟨(.value (.func (52 : Nat))), #[(.const (.int .i64 0)), (.const (.int .i64 65280))], #[3, 3]⟩, (some (29, true))⟩,
  ⟨(some 32), .call ⟨(.value (.func (55 : Nat))), #[(.tmp (30 : Nat)), (.tmp (31 : Nat))], #[25, 25]⟩, (some (29, true))⟩,
  ⟨(some 33), .pick (.tmp (29 : Nat)) (.tmp (32 : Nat)) (.const (.bool false)), none⟩,
  ⟨(some 0), .assign (.tmp (33 : Nat)), none⟩]
def K2_devicelinkWorks_a3 : List (List Nat) := [[], [0], [1], [2], [2], [3, 4, 2, 2], [2, 5], [6, 5], [7], [8, 7], [7, 9], [10, 7], [11], [11, 11], [12, 13, 13, 11], [11, 14], [15, 14, 0, 1, 2, 3, 4, 5, 6, 7, 8, 9, 10, 11, 12, 13, 14, 15]]
def K2_devicelinkWorks_c : SF := ⟨34, (.seq (.reg K2_devicelinkWorks_r0)
  (.seq (.reg K2_devicelinkWorks_r1)
  (.seq (.reg K2_devicelinkWorks_r2)
  (.seq (.regd K2_devicelinkWorks_r3 K2_devicelinkWorks_a3)
  .ret)))), [.tmp 0]⟩
theorem K2_devicelinkWorks_s : slimF Try.prog 20 = some K2_devicelinkWorks_c := by kernel_rfl
/-- printworks/printworkskeep2.profileWorks -/
def K2_profileWorks_r0 : List SO := [⟨(some 0), .assign (.const (.bool false)), none⟩]
def K2_profileWorks_r1 : List SO := [⟨(some 8), .call ⟨(.value (.func (54 : Nat))), #[], #[]⟩, none⟩,
  ⟨(some 9), .buildSlice 23 1 #[(0, (.const (.int .i64 128)))], none⟩,
  ⟨(some 10), .call ⟨(.value (.func (26 : Nat))), #[(.tmp (8 : Nat)), (.tmp (9 : Nat))], #[62, 23]⟩, none⟩,
  ⟨(some 7), .move (.tmp (10 : Nat)), none⟩,
  ⟨(some 11), .extract (.tmp (7 : Nat)) 0, none⟩,
  ⟨(some 12), .extract (.tmp (7 : Nat)) 1, none⟩,
  ⟨(some 1), .alloc 43, none⟩,
  ⟨none, .store 43 (.tmp (1 : Nat)) (.tmp (11 : Nat)), none⟩,
  ⟨(some 2), .assign (.tmp (12 : Nat)), none⟩]
def K2_profileWorks_r2 : List SO := [⟨(some 14), .call ⟨(.value (.func (54 : Nat))), #[], #[]⟩, none⟩,
  ⟨(some 15), .call ⟨(.value (.func (32 : Nat))), #[(.tmp (14 : Nat))], #[62]⟩, none⟩,
  ⟨(some 13), .move (.tmp (15 : Nat)), none⟩,
  ⟨(some 16), .extract (.tmp (13 : Nat)) 0, none⟩,
  ⟨(some 17), .extract (.tmp (13 : Nat)) 1, none⟩,
  ⟨(some 3), .assign (.tmp (16 : Nat)), none⟩,
  ⟨(some 4), .assign (.tmp (17 : Nat)), none⟩]
def K2_profileWorks_r3 : List SO := [⟨(some 19), .move (.tmp (3 : Nat)), none⟩,
  ⟨(some 20), .call ⟨(.value (.func (62 : Nat))), #[(.tmp (19 : Nat))], #[71]⟩, none⟩,
  ⟨(some 18), .move (.tmp (20 : Nat)), none⟩,
  ⟨(some 21), .extract (.tmp (18 : Nat)) 0, none⟩,
  ⟨(some 22), .extract (.tmp (18 : Nat)) 1, none⟩,
  ⟨(some 5), .assign (.tmp (21 : Nat)), none⟩,
  ⟨(some 6), .assign (.tmp (22 : Nat)), none⟩]
def K2_profileWorks_r4 : List SO := [⟨(some 23), .move (.tmp (2 : Nat)), none⟩,
  ⟨(some 24), .binOp .eql 33 (.tmp (23 : Nat)) (.const (.int .i64 0)) 33, none⟩,
  ⟨(some 25), .move (.tmp (24 : Nat)), none⟩,
  ⟨(some 26), .load 43 (.tmp (1 : Nat)), (some (25, true))⟩,
  ⟨(some 27), .build 43 #[(0, (.const (.int .i64 5984))), (1, (.const (.int .i64 50))), (2, (.const (.int .i64 (-50))))], (some (25, true))⟩,
  ⟨(some 28), .binOp .eql 43 (.tmp (26 : Nat)) (.tmp (27 : Nat)) 43, (some (25, true))⟩,
  ⟨(some 29), .pick (.tmp (25 : Nat)) (.tmp (28 : Nat)) (.const (.bool false)), none⟩,
  ⟨(some 30), .move (.tmp (29 : Nat)), none⟩,
  ⟨(some 31), .move (.tmp (4 : Nat)), (some (30, true))⟩,
  ⟨(some 32), .binOp .eql 33 (.tmp (31 : Nat)) (.const (.int .i64 0)) 33, (some (30, true))⟩,
  ⟨(some 33), .pick (.tmp (30 : Nat)) (.tmp (32 : Nat)) (.const (.bool false)), none⟩,
  ⟨(some 34), .move (.tmp (33 : Nat)), none⟩,
  ⟨(some 35), .move (.tmp (3 : Nat)), (some (34, true))⟩,
  ⟨(some 36), .call ⟨(.builtin .len), #[(.tmp (35 : Nat))], #[71]⟩, (some (34, true))⟩,
  ⟨(some 37), .binOp .eql 3 (.tmp (36 : Nat)) (.const (.int .i64 104)) 3, (some (34, true))⟩,
  ⟨(some 38), .pick (.tmp (34 : Nat)) (.tmp (37 : Nat)) (.const (.bool false)), none⟩,
  ⟨(some 39), .move (.tmp (38 : Nat)), none⟩,
  ⟨(some 40), .move (.tmp (6 : Nat)), (some (39, true))⟩,
  ⟨(some 41), .binOp .eql 33 (.tmp (40 : Nat)) (.const (.int .i64 0)) 33, (some (39, true))⟩,
  ⟨(some 42), .pick (.tmp (39 : Nat)) (.tmp (41 : Nat)) (.const (.bool false)), none⟩,
  ⟨(some 43), .move (.tmp (42 : Nat)), none⟩,
  ⟨(some 44), .move (.tmp (5 : Nat)), (some (43, true))⟩,
  ⟨(some 45), .buildSlice 22 4 #[(0, (.const (.string ⟨([110, 97, 109, 101] : List UInt8).toArray⟩))), (1, (.const (.string ⟨([105, 110, 107, 115] : List UInt8).toArray⟩))), (2, (.const (.string ⟨([99, 117, 114, 118] : List UInt8).toArray⟩))), (3, (.const (.string ⟨([103, 114, 105, 100] : List UInt8).toArray⟩)))], (some (43, true))⟩,
  ⟨(some 46), .call ⟨(.value (.func (63 : Nat))), #[(.tmp (44 : Nat)), (.tmp (45 : Nat))], #[22, 22]⟩, (some (43, true))⟩,
  ⟨(some 47), .pick (.tmp (43 : Nat)) (.tmp (46 : Nat)) (.const (.bool false)), none⟩,
  ⟨(some 48), .move (.tmp (47 : Nat)), none⟩,
  ⟨(some 49), .buildSlice 71 9 #[(0, (.const (.int .u8 49))), (1, (.const (.int .u8 50))), (2, (.const (.int .u8 51))), (3, (.const (.int .u8 52))), (4, (.const (.int .u8 53))), (5, (.const (.int .u8 54))), (6, (.const (.int .u8 55))), (7, (.const (.int .u8 56))), (8, (.const (.int .u8 57)))], (some (48, true))⟩,
  ⟨(some 50), .convert 71 71 (.tmp (49 : Nat)), (some (48, true))⟩,
  ⟨(some 51), .call ⟨(.value (.func (64 : Nat))), #[(.tmp (50 : Nat))], #[71]⟩, (some (48, true))⟩,
  ⟨(some 52), .binOp .eql 3 (.tmp (51 : Nat)) (.const (.int .i64 3421780262)) 3, (some (48, true))⟩,
  ⟨(some 53), .pick (.tmp (48 : Nat)) (.tmp (52 : Nat)) (.const (.bool false)), none⟩,
  ⟨(some 0), .assign (.tmp (53 : Nat)), none⟩]
def K2_profileWorks_c : SF := ⟨54, (.seq (.reg K2_profileWorks_r0)
  (.seq (.reg K2_profileWorks_r1)
  (.seq (.reg K2_profileWorks_r2)
  (.seq (.reg K2_profileWorks_r3)
  (.seq (.reg K2_profileWorks_r4)
  .ret))))), [.tmp 0]⟩
theorem K2_profileWorks_s : slimF Try.prog 28 = some K2_profileWorks_c := by kernel_rfl
/-- printworks/printworkskeep2.single -/
def K2_single_r0 : List SO := [⟨(some 0), .alloc 28, none⟩]
def K2_single_r1 : List SO := [⟨(some 2), .buildSlice 22 1 #[(0, (.const (.string ⟨([98, 108, 97, 99, 107] : List UInt8).toArray⟩)))], none⟩,
  ⟨(some 3), .buildSlice 23 1 #[(0, (.const (.int .i64 0)))], none⟩,
  ⟨(some 4), .call ⟨(.value (.func (52 : Nat))), #[(.const (.int .i64 65280)), (.const (.int .i64 0))], #[3, 3]⟩, none⟩,
  ⟨(some 5), .makeSlice 23 (.const (.int .i64 8)) (.const (.int .i64 8)), none⟩,
  ⟨(some 6), .build 25 #[(0, (.const (.int .i64 3))), (1, (.const (.int .i64 1))), (2, (.const (.int .i64 2))), (3, (.tmp (5 : Nat)))], none⟩,
  ⟨(some 7), .build 28 #[(0, (.tmp (2 : Nat))), (2, (.tmp (3 : Nat))), (3, (.tmp (4 : Nat))), (4, (.tmp (6 : Nat))), (6, (.const (.int .i64 200)))], none⟩,
  ⟨(some 1), .alloc 28, none⟩,
  ⟨none, .store 28 (.tmp (1 : Nat)) (.tmp (7 : Nat)), none⟩]
def K2_single_a1 : List (List Nat) := [[], [], [], [], [3], [0, 1, 2, 4], [], [6, 5, 2, 0, 1, 2, 3, 4, 5, 6]]
def K2_single_r2 : List SO := [⟨(some 8), .fieldAddr 28 (.tmp (1 : Nat)) 4, none⟩,
  ⟨(some 9), .fieldAddr 25 (.tmp (8 : Nat)) 3, none⟩,
  ⟨(some 10), .load 23 (.tmp (9 : Nat)), none⟩,
  ⟨(some 11), .indexAddr 23 (.tmp (10 : Nat)) (.const (.int .i64 0)), none⟩,
  ⟨none, .store 3 (.tmp (11 : Nat)) (.const (.int .i64 65280)), none⟩]
def K2_single_r3 : List SO := [⟨(some 12), .load 28 (.tmp (1 : Nat)), none⟩,
  ⟨none, .store 28 (.tmp (0 : Nat)) (.tmp (12 : Nat)), none⟩]
def K2_single_c : SF := ⟨13, (.seq (.reg K2_single_r0)
  (.seq (.regd K2_single_r1 K2_single_a1)
  (.seq (.reg K2_single_r2)
  (.seq (.reg K2_single_r3)
  .ret)))), [.cell 0 28]⟩
theorem K2_single_s : slimF Try.prog 36 = some K2_single_c := by kernel_rfl
/-- printworks/printworkskeep2.straight -/
def K2_straight_r0 : List SO := [⟨(some 4), .alloc 25, none⟩]
def K2_straight_r1 : List SO := [⟨(some 5), .move (.tmp (0 : Nat)), none⟩,
  ⟨(some 6), .move (.tmp (1 : Nat)), none⟩,
  ⟨(some 7), .buildSlice 23 2 #[(0, (.tmp (5 : Nat))), (1, (.tmp (6 : Nat)))], none⟩,
  ⟨(some 8), .build 25 #[(0, (.const (.int .i64 1))), (1, (.const (.int .i64 1))), (2, (.const (.int .i64 2))), (3, (.tmp (7 : Nat)))], none⟩,
  ⟨none, .store 25 (.tmp (4 : Nat)) (.tmp (8 : Nat)), none⟩]
def K2_straight_c : SF := ⟨9, (.seq (.reg K2_straight_r0)
  (.seq (.reg K2_straight_r1)
  .ret)), [.cell 4 25]⟩
theorem K2_straight_s : slimF Try.prog 52 = some K2_straight_c := by kernel_rfl
/-- printworks/printworkskeep2.one -/
def K2_one_r0 : List SO := [⟨(some 0), .alloc 62, none⟩]
def K2_one_r1 : List SO := [⟨(some 1), .buildSlice 22 1 #[(0, (.const (.string ⟨([98, 108, 97, 99, 107] : List UInt8).toArray⟩)))], none⟩,
  ⟨(some 2), .call ⟨(.value (.func (86 : Nat))), #[], #[]⟩, none⟩,
  ⟨(some 3), .buildSlice 60 1 #[(0, (.tmp (2 : Nat)))], none⟩,
  ⟨(some 4), .buildSlice 23 6 #[(0, (.const (.int .i64 10000))), (1, (.const (.int .i64 0))), (2, (.const (.int .i64 0))), (3, (.const (.int .i64 2000))), (4, (.const (.int .i64 100))), (5, (.const (.int .i64 (-100))))], none⟩,
  ⟨(some 5), .build 25 #[(0, (.const (.int .i64 1))), (1, (.const (.int .i64 3))), (2, (.const (.int .i64 2))), (3, (.tmp (4 : Nat)))], none⟩,
  ⟨(some 6), .build 62 #[(0, (.const (.string ⟨([112, 49] : List UInt8).toArray⟩))), (1, (.tmp (1 : Nat))), (2, (.tmp (3 : Nat))), (3, (.tmp (5 : Nat)))], none⟩,
  ⟨none, .store 62 (.tmp (0 : Nat)) (.tmp (6 : Nat)), none⟩]
def K2_one_c : SF := ⟨7, (.seq (.reg K2_one_r0)
  (.seq (.reg K2_one_r1)
  .ret)), [.cell 0 62]⟩
theorem K2_one_s : slimF Try.prog 54 = some K2_one_c := by kernel_rfl
/-- printworks/printworkskeep2.line -/
def K2_line_r0 : List SO := [⟨(some 0), .alloc 46, none⟩]
def K2_line_r1 : List SO := [⟨(some 1), .build 116 #[], none⟩,
  ⟨(some 2), .build 116 #[(0, (.const (.int .i64 65280))), (1, (.const (.int .i64 65280)))], none⟩,
  ⟨(some 3), .buildSlice 44 2 #[(0, (.tmp (1 : Nat))), (1, (.tmp (2 : Nat)))], none⟩,
  ⟨(some 4), .build 46 #[(0, (.tmp (3 : Nat)))], none⟩,
  ⟨none, .store 46 (.tmp (0 : Nat)) (.tmp (4 : Nat)), none⟩]
def K2_line_c : SF := ⟨5, (.seq (.reg K2_line_r0)
  (.seq (.reg K2_line_r1)
  .ret)), [.cell 0 46]⟩
theorem K2_line_s : slimF Try.prog 86 = some K2_line_c := by kernel_rfl
def tbl_K2 : List (Nat × SF) := [(10, K2_conditionWorks_c), (20, K2_devicelinkWorks_c), (28, K2_profileWorks_c), (36, K2_single_c), (52, K2_straight_c), (54, K2_one_c), (86, K2_line_c)]
theorem tbl_K2_ok : okT Try.prog tbl_K2 := ⟨K2_conditionWorks_s, K2_devicelinkWorks_s, K2_profileWorks_s, K2_single_s, K2_straight_s, K2_one_s, K2_line_s, trivial⟩

end Go.Proofs.Ytogbkhopanaoiaa
namespace Go.Proofs.Ytogbkhopanaoiaa
open Go Go.Lite
set_option linter.unusedVariables false

/-- printworks/printworksref2.Mod -/
def R2_Mod_r0 : List SO := [⟨(some 4), .assign (.const (.int .i64 0)), none⟩]
def R2_Mod_r1 : List SO := [⟨(some 5), .move (.tmp (0 : Nat)), none⟩,
  ⟨(some 6), .move (.tmp (1 : Nat)), none⟩,
  ⟨(some 7), .move (.tmp (0 : Nat)), none⟩,
  ⟨(some 8), .move (.tmp (1 : Nat)), none⟩,
  ⟨(some 9), .call ⟨(.value (.func (45 : Nat))), #[(.tmp (7 : Nat)), (.tmp (8 : Nat))], #[3, 3]⟩, none⟩,
  ⟨(some 10), .binOp .mul 3 (.tmp (6 : Nat)) (.tmp (9 : Nat)) 3, none⟩,
  ⟨(some 11), .binOp .sub 3 (.tmp (5 : Nat)) (.tmp (10 : Nat)) 3, none⟩,
  ⟨(some 4), .assign (.tmp (11 : Nat)), none⟩]
def R2_Mod_c : SF := ⟨12, (.seq (.reg R2_Mod_r0)
  (.seq (.reg R2_Mod_r1)
  .ret)), [.tmp 4]⟩
theorem R2_Mod_s : slimF Try.prog 16 = some R2_Mod_c := by kernel_rfl
abbrev R2_Mod_f : Nat := 16
/-- printworks/printworksref2.Round -/
def R2_Round_r0 : List SO := [⟨(some 4), .assign (.const (.int .i64 0)), none⟩]
def R2_Round_r1 : List SO := [⟨(some 6), .move (.tmp (0 : Nat)), none⟩,
  ⟨(some 7), .move (.tmp (1 : Nat)), none⟩,
  ⟨(some 8), .call ⟨(.value (.func (45 : Nat))), #[(.tmp (6 : Nat)), (.tmp (7 : Nat))], #[3, 3]⟩, none⟩,
  ⟨(some 5), .assign (.tmp (8 : Nat)), none⟩]
def R2_Round_r2 : List SO := [⟨(some 9), .move (.tmp (0 : Nat)), none⟩,
  ⟨(some 10), .move (.tmp (5 : Nat)), none⟩,
  ⟨(some 11), .move (.tmp (1 : Nat)), none⟩,
  ⟨(some 12), .binOp .mul 3 (.tmp (10 : Nat)) (.tmp (11 : Nat)) 3, none⟩,
  ⟨(some 13), .binOp .sub 3 (.tmp (9 : Nat)) (.tmp (12 : Nat)) 3, none⟩,
  ⟨(some 14), .binOp .mul 3 (.const (.int .i64 2)) (.tmp (13 : Nat)) 3, none⟩,
  ⟨(some 15), .move (.tmp (1 : Nat)), none⟩,
  ⟨(some 16), .binOp .geq 3 (.tmp (14 : Nat)) (.tmp (15 : Nat)) 3, none⟩]
def R2_Round_r3 : List SO := [⟨(some 17), .move (.tmp (5 : Nat)), none⟩,
  ⟨(some 18), .binOp .add 3 (.tmp (17 : Nat)) (.const (.int .i64 1)) 3, none⟩,
  ⟨(some 5), .assign (.tmp (18 : Nat)), none⟩]
def R2_Round_r4 : List SO := [⟨(some 19), .move (.tmp (5 : Nat)), none⟩,
  ⟨(some 4), .assign (.tmp (19 : Nat)), none⟩]
def R2_Round_c : SF := ⟨20, (.seq (.reg R2_Round_r0)
  (.seq (.reg R2_Round_r1)
  (.seq (.seq (.reg R2_Round_r2)
  (.cond (.tmp (16 : Nat)) (.reg R2_Round_r3) .skip))
  (.seq (.reg R2_Round_r4)
  .ret)))), [.tmp 4]⟩
theorem R2_Round_s : slimF Try.prog 23 = some R2_Round_c := by kernel_rfl
/-- printworks/printworksref2.SameInts -/
def R2_SameInts_r0 : List SO := [⟨(some 4), .assign (.const (.bool false)), none⟩]
def R2_SameInts_r1 : List SO := [⟨(some 6), .move (.tmp (0 : Nat)), none⟩,
  ⟨(some 7), .call ⟨(.builtin .len), #[(.tmp (6 : Nat))], #[23]⟩, none⟩,
  ⟨(some 8), .move (.tmp (1 : Nat)), none⟩,
  ⟨(some 9), .call ⟨(.builtin .len), #[(.tmp (8 : Nat))], #[23]⟩, none⟩,
  ⟨(some 10), .binOp .neq 3 (.tmp (7 : Nat)) (.tmp (9 : Nat)) 3, none⟩]
def R2_SameInts_r2 : List SO := [⟨(some 4), .assign (.const (.bool false)), none⟩]
def R2_SameInts_r3 : List SO := [⟨(some 11), .move (.tmp (0 : Nat)), none⟩,
  ⟨(some 12), .call ⟨(.builtin .len), #[(.tmp (11 : Nat))], #[23]⟩, none⟩,
  ⟨(some 13), .move (.const (.int .i64 0)), none⟩]
def R2_SameInts_r4 : List SO := [⟨(some 14), .binOp .lss 3 (.tmp (13 : Nat)) (.tmp (12 : Nat)) 3, none⟩]
def R2_SameInts_r5 : List SO := [⟨(some 15), .move (.tmp (13 : Nat)), none⟩,
  ⟨(some 5), .assign (.tmp (15 : Nat)), none⟩]
def R2_SameInts_r6 : List SO := [⟨(some 16), .move (.tmp (0 : Nat)), none⟩,
  ⟨(some 17), .move (.tmp (5 : Nat)), none⟩,
  ⟨(some 18), .indexAddr 23 (.tmp (16 : Nat)) (.tmp (17 : Nat)), none⟩,
  ⟨(some 19), .load 3 (.tmp (18 : Nat)), none⟩,
  ⟨(some 20), .move (.tmp (1 : Nat)), none⟩,
  ⟨(some 21), .move (.tmp (5 : Nat)), none⟩,
  ⟨(some 22), .indexAddr 23 (.tmp (20 : Nat)) (.tmp (21 : Nat)), none⟩,
  ⟨(some 23), .load 3 (.tmp (22 : Nat)), none⟩,
  ⟨(some 24), .binOp .neq 3 (.tmp (19 : Nat)) (.tmp (23 : Nat)) 3, none⟩]
def R2_SameInts_a6 : List (List Nat) := [[], [], [0, 1], [2], [], [], [4, 5], [6], [3, 7]]
def R2_SameInts_r7 : List SO := [⟨(some 4), .assign (.const (.bool false)), none⟩]
def R2_SameInts_r8 : List SO := [⟨(some 25), .binOp .add 3 (.tmp (13 : Nat)) (.const (.int .i64 1)) 3, none⟩,
  ⟨(some 13), .move (.tmp (25 : Nat)), none⟩]
def R2_SameInts_r9 : List SO := [⟨(some 4), .assign (.const (.bool true)), none⟩]
def R2_SameInts_c : SF := ⟨26, (.seq (.reg R2_SameInts_r0)
  (.seq (.seq (.reg R2_SameInts_r1)
  (.cond (.tmp (10 : Nat)) (.seq (.reg R2_SameInts_r2)
  .ret) .skip))
  (.seq (.seq (.reg R2_SameInts_r3)
  (.block 0 (.loop (.seq (.reg R2_SameInts_r4)
  (.seq (.cond (.tmp (14 : Nat)) .skip (.exit 0))
  (.seq (.block 1 (.seq (.reg R2_SameInts_r5)
  (.seq (.regd R2_SameInts_r6 R2_SameInts_a6)
  (.cond (.tmp (24 : Nat)) (.seq (.reg R2_SameInts_r7)
  .ret) .skip))))
  (.reg R2_SameInts_r8)))))))
  (.seq (.reg R2_SameInts_r9)
  .ret)))), [.tmp 4]⟩
theorem R2_SameInts_s : slimF Try.prog 24 = some R2_SameInts_c := by kernel_rfl
/-- printworks/printworksref2.SameProfiles -/
def R2_SameProfiles_r0 : List SO := [⟨(some 2), .box 62 (.tmp (0 : Nat)), none⟩,
  ⟨(some 3), .box 62 (.tmp (1 : Nat)), none⟩,
  ⟨(some 4), .assign (.const (.bool false)), none⟩]
def R2_SameProfiles_r1 : List SO := [⟨(some 6), .fieldAddr 62 (.tmp (2 : Nat)) 0, none⟩,
  ⟨(some 7), .load 9 (.tmp (6 : Nat)), none⟩,
  ⟨(some 8), .fieldAddr 62 (.tmp (3 : Nat)) 0, none⟩,
  ⟨(some 9), .load 9 (.tmp (8 : Nat)), none⟩,
  ⟨(some 10), .binOp .neq 9 (.tmp (7 : Nat)) (.tmp (9 : Nat)) 9, none⟩,
  ⟨(some 11), .move (.tmp (10 : Nat)), none⟩,
  ⟨(some 12), .fieldAddr 62 (.tmp (2 : Nat)) 1, (some (11, false))⟩,
  ⟨(some 13), .load 22 (.tmp (12 : Nat)), (some (11, false))⟩,
  ⟨(some 14), .fieldAddr 62 (.tmp (3 : Nat)) 1, (some (11, false))⟩,
  ⟨(some 15), .load 22 (.tmp (14 : Nat)), (some (11, false))⟩,
  ⟨(some 16), .call ⟨(.value (.func (63 : Nat))), #[(.tmp (13 : Nat)), (.tmp (15 : Nat))], #[22, 22]⟩, (some (11, false))⟩,
  ⟨(some 17), .unOp .not 4 (.tmp (16 : Nat)), (some (11, false))⟩,
  ⟨(some 18), .pick (.tmp (11 : Nat)) (.const (.bool true)) (.tmp (17 : Nat)), none⟩,
  ⟨(some 19), .move (.tmp (18 : Nat)), none⟩,
  ⟨(some 20), .fieldAddr 62 (.tmp (2 : Nat)) 2, (some (19, false))⟩,
  ⟨(some 21), .load 60 (.tmp (20 : Nat)), (some (19, false))⟩,
  ⟨(some 22), .call ⟨(.builtin .len), #[(.tmp (21 : Nat))], #[60]⟩, (some (19, false))⟩,
  ⟨(some 23), .fieldAddr 62 (.tmp (3 : Nat)) 2, (some (19, false))⟩,
  ⟨(some 24), .load 60 (.tmp (23 : Nat)), (some (19, false))⟩,
  ⟨(some 25), .call ⟨(.builtin .len), #[(.tmp (24 : Nat))], #[60]⟩, (some (19, false))⟩,
  ⟨(some 26), .binOp .neq 3 (.tmp (22 : Nat)) (.tmp (25 : Nat)) 3, (some (19, false))⟩,
  ⟨(some 27), .pick (.tmp (19 : Nat)) (.const (.bool true)) (.tmp (26 : Nat)), none⟩,
  ⟨(some 28), .move (.tmp (27 : Nat)), none⟩,
  ⟨(some 29), .fieldAddr 62 (.tmp (2 : Nat)) 3, (some (28, false))⟩,
  ⟨(some 30), .load 25 (.tmp (29 : Nat)), (some (28, false))⟩,
  ⟨(some 31), .fieldAddr 62 (.tmp (3 : Nat)) 3, (some (28, false))⟩,
  ⟨(some 32), .load 25 (.tmp (31 : Nat)), (some (28, false))⟩,
  ⟨(some 33), .call ⟨(.value (.func (55 : Nat))), #[(.tmp (30 : Nat)), (.tmp (32 : Nat))], #[25, 25]⟩, (some (28, false))⟩,
  ⟨(some 34), .unOp .not 4 (.tmp (33 : Nat)), (some (28, false))⟩,
  ⟨(some 35), .pick (.tmp (28 : Nat)) (.const (.bool true)) (.tmp (34 : Nat)), none⟩]
def R2_SameProfiles_r2 : List SO := [⟨(some 4), .assign (.const (.bool false)), none⟩]
def R2_SameProfiles_r3 : List SO := [⟨(some 36), .fieldAddr 62 (.tmp (2 : Nat)) 2, none⟩,
  ⟨(some 37), .load 60 (.tmp (36 : Nat)), none⟩,
  ⟨(some 38), .call ⟨(.builtin .len), #[(.tmp (37 : Nat))], #[60]⟩, none⟩,
  ⟨(some 39), .move (.const (.int .i64 0)), none⟩]
def R2_SameProfiles_r4 : List SO := [⟨(some 40), .binOp .lss 3 (.tmp (39 : Nat)) (.tmp (38 : Nat)) 3, none⟩]
def R2_SameProfiles_r5 : List SO := [⟨(some 41), .move (.tmp (39 : Nat)), none⟩,
  ⟨(some 5), .assign (.tmp (41 : Nat)), none⟩]
def R2_SameProfiles_r6 : List SO := [⟨(some 42), .fieldAddr 62 (.tmp (2 : Nat)) 2, none⟩,
  ⟨(some 43), .load 60 (.tmp (42 : Nat)), none⟩,
  ⟨(some 44), .move (.tmp (5 : Nat)), none⟩,
  ⟨(some 45), .indexAddr 60 (.tmp (43 : Nat)) (.tmp (44 : Nat)), none⟩,
  ⟨(some 46), .load 46 (.tmp (45 : Nat)), none⟩,
  ⟨(some 47), .fieldAddr 62 (.tmp (3 : Nat)) 2, none⟩,
  ⟨(some 48), .load 60 (.tmp (47 : Nat)), none⟩,
  ⟨(some 49), .move (.tmp (5 : Nat)), none⟩,
  ⟨(some 50), .indexAddr 60 (.tmp (48 : Nat)) (.tmp (49 : Nat)), none⟩,
  ⟨(some 51), .load 46 (.tmp (50 : Nat)), none⟩,
  ⟨(some 52), .call ⟨(.value (.func (77 : Nat))), #[(.tmp (46 : Nat)), (.tmp (51 : Nat))], #[46, 46]⟩, none⟩,
  ⟨(some 53), .unOp .not 4 (.tmp (52 : Nat)), none⟩]
def R2_SameProfiles_a6 : List (List Nat) := [[], [0], [], [1, 2], [3], [], [5], [], [6, 7], [8], [4, 9], [10]]
def R2_SameProfiles_r7 : List SO := [⟨(some 4), .assign (.const (.bool false)), none⟩]
def R2_SameProfiles_r8 : List SO := [⟨(some 54), .binOp .add 3 (.tmp (39 : Nat)) (.const (.int .i64 1)) 3, none⟩,
  ⟨(some 39), .move (.tmp (54 : Nat)), none⟩]
def R2_SameProfiles_r9 : List SO := [⟨(some 4), .assign (.const (.bool true)), none⟩]
def R2_SameProfiles_c : SF := ⟨55, (.seq (.reg R2_SameProfiles_r0)
  (.seq (.seq (.reg R2_SameProfiles_r1)
  (.cond (.tmp (35 : Nat)) (.seq (.reg R2_SameProfiles_r2)
  .ret) .skip))
  (.seq (.seq (.reg R2_SameProfiles_r3)
  (.block 0 (.loop (.seq (.reg R2_SameProfiles_r4)
  (.seq (.cond (.tmp (40 : Nat)) .skip (.exit 0))
  (.seq (.block 1 (.seq (.reg R2_SameProfiles_r5)
  (.seq (.regd R2_SameProfiles_r6 R2_SameProfiles_a6)
  (.cond (.tmp (53 : Nat)) (.seq (.reg R2_SameProfiles_r7)
  .ret) .skip))))
  (.reg R2_SameProfiles_r8)))))))
  (.seq (.reg R2_SameProfiles_r9)
  .ret)))), [.tmp 4]⟩
theorem R2_SameProfiles_s : slimF Try.prog 35 = some R2_SameProfiles_c := by kernel_rfl
/-- printworks/printworksref2.Floor -/
def R2_Floor_r0 : List SO := [⟨(some 4), .assign (.const (.int .i64 0)), none⟩]
def R2_Floor_r1 : List SO := [⟨(some 6), .move (.tmp (0 : Nat)), none⟩,
  ⟨(some 7), .move (.tmp (1 : Nat)), none⟩,
  ⟨(some 8), .binOp .quo 3 (.tmp (6 : Nat)) (.tmp (7 : Nat)) 3, none⟩,
  ⟨(some 5), .assign (.tmp (8 : Nat)), none⟩]
def R2_Floor_r2 : List SO := [⟨(some 9), .move (.tmp (5 : Nat)), none⟩,
  ⟨(some 10), .move (.tmp (1 : Nat)), none⟩,
  ⟨(some 11), .binOp .mul 3 (.tmp (9 : Nat)) (.tmp (10 : Nat)) 3, none⟩,
  ⟨(some 12), .move (.tmp (0 : Nat)), none⟩,
  ⟨(some 13), .binOp .gtr 3 (.tmp (11 : Nat)) (.tmp (12 : Nat)) 3, none⟩]
def R2_Floor_r3 : List SO := [⟨(some 14), .move (.tmp (5 : Nat)), none⟩,
  ⟨(some 15), .binOp .sub 3 (.tmp (14 : Nat)) (.const (.int .i64 1)) 3, none⟩,
  ⟨(some 5), .assign (.tmp (15 : Nat)), none⟩]
def R2_Floor_r4 : List SO := [⟨(some 16), .move (.tmp (5 : Nat)), none⟩,
  ⟨(some 4), .assign (.tmp (16 : Nat)), none⟩]
def R2_Floor_c : SF := ⟨17, (.seq (.reg R2_Floor_r0)
  (.seq (.reg R2_Floor_r1)
  (.seq (.seq (.reg R2_Floor_r2)
  (.cond (.tmp (13 : Nat)) (.reg R2_Floor_r3) .skip))
  (.seq (.reg R2_Floor_r4)
  .ret)))), [.tmp 4]⟩
theorem R2_Floor_s : slimF Try.prog 45 = some R2_Floor_c := by kernel_rfl
abbrev R2_Floor_f : Nat := 45
/-- printworks/printworksref2.SameGrids -/
def R2_SameGrids_r0 : List SO := [⟨(some 2), .box 25 (.tmp (0 : Nat)), none⟩,
  ⟨(some 3), .box 25 (.tmp (1 : Nat)), none⟩,
  ⟨(some 4), .assign (.const (.bool false)), none⟩]
def R2_SameGrids_r1 : List SO := [⟨(some 5), .fieldAddr 25 (.tmp (2 : Nat)) 0, none⟩,
  ⟨(some 6), .load 3 (.tmp (5 : Nat)), none⟩,
  ⟨(some 7), .fieldAddr 25 (.tmp (3 : Nat)) 0, none⟩,
  ⟨(some 8), .load 3 (.tmp (7 : Nat)), none⟩,
  ⟨(some 9), .binOp .eql 3 (.tmp (6 : Nat)) (.tmp (8 : Nat)) 3, none⟩,
  ⟨(some 10), .move (.tmp (9 : Nat)), none⟩,
  ⟨(some 11), .fieldAddr 25 (.tmp (2 : Nat)) 1, (some (10, true))⟩,
  ⟨(some 12), .load 3 (.tmp (11 : Nat)), (some (10, true))⟩,
  ⟨(some 13), .fieldAddr 25 (.tmp (3 : Nat)) 1, (some (10, true))⟩,
  ⟨(some 14), .load 3 (.tmp (13 : Nat)), (some (10, true))⟩,
  ⟨(some 15), .binOp .eql 3 (.tmp (12 : Nat)) (.tmp (14 : Nat)) 3, (some (10, true))⟩,
  ⟨(some 16), .pick (.tmp (10 : Nat)) (.tmp (15 : Nat)) (.const (.bool false)), none⟩,
  ⟨(some 17), .move (.tmp (16 : Nat)), none⟩,
  ⟨(some 18), .fieldAddr 25 (.tmp (2 : Nat)) 2, (some (17, true))⟩,
  ⟨(some 19), .load 3 (.tmp (18 : Nat)), (some (17, true))⟩,
  ⟨(some 20), .fieldAddr 25 (.tmp (3 : Nat)) 2, (some (17, true))⟩,
  ⟨(some 21), .load 3 (.tmp (20 : Nat)), (some (17, true))⟩,
  ⟨(some 22), .binOp .eql 3 (.tmp (19 : Nat)) (.tmp (21 : Nat)) 3, (some (17, true))⟩,
  ⟨(some 23), .pick (.tmp (17 : Nat)) (.tmp (22 : Nat)) (.const (.bool false)), none⟩,
  ⟨(some 24), .move (.tmp (23 : Nat)), none⟩,
  ⟨(some 25), .fieldAddr 25 (.tmp (2 : Nat)) 3, (some (24, true))⟩,
  ⟨(some 26), .load 23 (.tmp (25 : Nat)), (some (24, true))⟩,
  ⟨(some 27), .fieldAddr 25 (.tmp (3 : Nat)) 3, (some (24, true))⟩,
  ⟨(some 28), .load 23 (.tmp (27 : Nat)), (some (24, true))⟩,
  ⟨(some 29), .call ⟨(.value (.func (24 : Nat))), #[(.tmp (26 : Nat)), (.tmp (28 : Nat))], #[23, 23]⟩, (some (24, true))⟩,
  ⟨(some 30), .pick (.tmp (24 : Nat)) (.tmp (29 : Nat)) (.const (.bool false)), none⟩,
  ⟨(some 4), .assign (.tmp (30 : Nat)), none⟩]
def R2_SameGrids_c : SF := ⟨31, (.seq (.reg R2_SameGrids_r0)
  (.seq (.reg R2_SameGrids_r1)
  .ret)), [.tmp 4]⟩
theorem R2_SameGrids_s : slimF Try.prog 55 = some R2_SameGrids_c := by kernel_rfl
/-- printworks/printworksref2.SameTexts -/
def R2_SameTexts_r0 : List SO := [⟨(some 4), .assign (.const (.bool false)), none⟩]
def R2_SameTexts_r1 : List SO := [⟨(some 6), .move (.tmp (0 : Nat)), none⟩,
  ⟨(some 7), .call ⟨(.builtin .len), #[(.tmp (6 : Nat))], #[22]⟩, none⟩,
  ⟨(some 8), .move (.tmp (1 : Nat)), none⟩,
  ⟨(some 9), .call ⟨(.builtin .len), #[(.tmp (8 : Nat))], #[22]⟩, none⟩,
  ⟨(some 10), .binOp .neq 3 (.tmp (7 : Nat)) (.tmp (9 : Nat)) 3, none⟩]
def R2_SameTexts_r2 : List SO := [⟨(some 4), .assign (.const (.bool false)), none⟩]
def R2_SameTexts_r3 : List SO := [⟨(some 11), .move (.tmp (0 : Nat)), none⟩,
  ⟨(some 12), .call ⟨(.builtin .len), #[(.tmp (11 : Nat))], #[22]⟩, none⟩,
  ⟨(some 13), .move (.const (.int .i64 0)), none⟩]
def R2_SameTexts_r4 : List SO := [⟨(some 14), .binOp .lss 3 (.tmp (13 : Nat)) (.tmp (12 : Nat)) 3, none⟩]
def R2_SameTexts_r5 : List SO := [⟨(some 15), .move (.tmp (13 : Nat)), none⟩,
  ⟨(some 5), .assign (.tmp (15 : Nat)), none⟩]
def R2_SameTexts_r6 : List SO := [⟨(some 16), .move (.tmp (0 : Nat)), none⟩,
  ⟨(some 17), .move (.tmp (5 : Nat)), none⟩,
  ⟨(some 18), .indexAddr 22 (.tmp (16 : Nat)) (.tmp (17 : Nat)), none⟩,
  ⟨(some 19), .load 9 (.tmp (18 : Nat)), none⟩,
  ⟨(some 20), .move (.tmp (1 : Nat)), none⟩,
  ⟨(some 21), .move (.tmp (5 : Nat)), none⟩,
  ⟨(some 22), .indexAddr 22 (.tmp (20 : Nat)) (.tmp (21 : Nat)), none⟩,
  ⟨(some 23), .load 9 (.tmp (22 : Nat)), none⟩,
  ⟨(some 24), .binOp .neq 9 (.tmp (19 : Nat)) (.tmp (23 : Nat)) 9, none⟩]
def R2_SameTexts_a6 : List (List Nat) := [[], [], [0, 1], [2], [], [], [4, 5], [6], [3, 7]]
def R2_SameTexts_r7 : List SO := [⟨(some 4), .assign (.const (.bool false)), none⟩]
def R2_SameTexts_r8 : List SO := [⟨(some 25), .binOp .add 3 (.tmp (13 : Nat)) (.const (.int .i64 1)) 3, none⟩,
  ⟨(some 13), .move (.tmp (25 : Nat)), none⟩]
def R2_SameTexts_r9 : List SO := [⟨(some 4), .assign (.const (.bool true)), none⟩]
def R2_SameTexts_c : SF := ⟨26, (.seq (.reg R2_SameTexts_r0)
  (.seq (.seq (.reg R2_SameTexts_r1)
  (.cond (.tmp (10 : Nat)) (.seq (.reg R2_SameTexts_r2)
  .ret) .skip))
  (.seq (.seq (.reg R2_SameTexts_r3)
  (.block 0 (.loop (.seq (.reg R2_SameTexts_r4)
  (.seq (.cond (.tmp (14 : Nat)) .skip (.exit 0))
  (.seq (.block 1 (.seq (.reg R2_SameTexts_r5)
  (.seq (.regd R2_SameTexts_r6 R2_SameTexts_a6)
  (.cond (.tmp (24 : Nat)) (.seq (.reg R2_SameTexts_r7)
  .ret) .skip))))
  (.reg R2_SameTexts_r8)))))))
  (.seq (.reg R2_SameTexts_r9)
  .ret)))), [.tmp 4]⟩
theorem R2_SameTexts_s : slimF Try.prog 63 = some R2_SameTexts_c := by kernel_rfl
/-- printworks/printworksref2.SameCurves -/
def R2_SameCurves_r0 : List SO := [⟨(some 2), .box 46 (.tmp (0 : Nat)), none⟩,
  ⟨(some 3), .box 46 (.tmp (1 : Nat)), none⟩,
  ⟨(some 4), .assign (.const (.bool false)), none⟩]
def R2_SameCurves_r1 : List SO := [⟨(some 6), .fieldAddr 46 (.tmp (2 : Nat)) 0, none⟩,
  ⟨(some 7), .load 44 (.tmp (6 : Nat)), none⟩,
  ⟨(some 8), .call ⟨(.builtin .len), #[(.tmp (7 : Nat))], #[44]⟩, none⟩,
  ⟨(some 9), .fieldAddr 46 (.tmp (3 : Nat)) 0, none⟩,
  ⟨(some 10), .load 44 (.tmp (9 : Nat)), none⟩,
  ⟨(some 11), .call ⟨(.builtin .len), #[(.tmp (10 : Nat))], #[44]⟩, none⟩,
  ⟨(some 12), .binOp .neq 3 (.tmp (8 : Nat)) (.tmp (11 : Nat)) 3, none⟩]
def R2_SameCurves_r2 : List SO := [⟨(some 4), .assign (.const (.bool false)), none⟩]
def R2_SameCurves_r3 : List SO := [⟨(some 13), .fieldAddr 46 (.tmp (2 : Nat)) 0, none⟩,
  ⟨(some 14), .load 44 (.tmp (13 : Nat)), none⟩,
  ⟨(some 15), .call ⟨(.builtin .len), #[(.tmp (14 : Nat))], #[44]⟩, none⟩,
  ⟨(some 16), .move (.const (.int .i64 0)), none⟩]
def R2_SameCurves_r4 : List SO := [⟨(some 17), .binOp .lss 3 (.tmp (16 : Nat)) (.tmp (15 : Nat)) 3, none⟩]
def R2_SameCurves_r5 : List SO := [⟨(some 18), .move (.tmp (16 : Nat)), none⟩,
  ⟨(some 5), .assign (.tmp (18 : Nat)), none⟩]
def R2_SameCurves_r6 : List SO := [⟨(some 19), .fieldAddr 46 (.tmp (2 : Nat)) 0, none⟩,
  ⟨(some 20), .load 44 (.tmp (19 : Nat)), none⟩,
  ⟨(some 21), .move (.tmp (5 : Nat)), none⟩,
  ⟨(some 22), .indexAddr 44 (.tmp (20 : Nat)) (.tmp (21 : Nat)), none⟩,
  ⟨(some 23), .load 116 (.tmp (22 : Nat)), none⟩,
  ⟨(some 24), .fieldAddr 46 (.tmp (3 : Nat)) 0, none⟩,
  ⟨(some 25), .load 44 (.tmp (24 : Nat)), none⟩,
  ⟨(some 26), .move (.tmp (5 : Nat)), none⟩,
  ⟨(some 27), .indexAddr 44 (.tmp (25 : Nat)) (.tmp (26 : Nat)), none⟩,
  ⟨(some 28), .load 116 (.tmp (27 : Nat)), none⟩,
  ⟨(some 29), .binOp .neq 116 (.tmp (23 : Nat)) (.tmp (28 : Nat)) 116, none⟩]
def R2_SameCurves_a6 : List (List Nat) := [[], [0], [], [1, 2], [3], [], [5], [], [6, 7], [8], [4, 9]]
def R2_SameCurves_r7 : List SO := [⟨(some 4), .assign (.const (.bool false)), none⟩]
def R2_SameCurves_r8 : List SO := [⟨(some 30), .binOp .add 3 (.tmp (16 : Nat)) (.const (.int .i64 1)) 3, none⟩,
  ⟨(some 16), .move (.tmp (30 : Nat)), none⟩]
def R2_SameCurves_r9 : List SO := [⟨(some 4), .assign (.const (.bool true)), none⟩]
def R2_SameCurves_c : SF := ⟨31, (.seq (.reg R2_SameCurves_r0)
  (.seq (.seq (.reg R2_SameCurves_r1)
  (.cond (.tmp (12 : Nat)) (.seq (.reg R2_SameCurves_r2)
  .ret) .skip))
  (.seq (.seq (.reg R2_SameCurves_r3)
  (.block 0 (.loop (.seq (.reg R2_SameCurves_r4)
  (.seq (.cond (.tmp (17 : Nat)) .skip (.exit 0))
  (.seq (.block 1 (.seq (.reg R2_SameCurves_r5)
  (.seq (.regd R2_SameCurves_r6 R2_SameCurves_a6)
  (.cond (.tmp (29 : Nat)) (.seq (.reg R2_SameCurves_r7)
  .ret) .skip))))
  (.reg R2_SameCurves_r8)))))))
  (.seq (.reg R2_SameCurves_r9)
  .ret)))), [.tmp 4]⟩
theorem R2_SameCurves_s : slimF Try.prog 77 = some R2_SameCurves_c := by kernel_rfl
def tbl_R2 : List (Nat × SF) := [(16, R2_Mod_c), (23, R2_Round_c), (24, R2_SameInts_c), (35, R2_SameProfiles_c), (45, R2_Floor_c), (55, R2_SameGrids_c), (63, R2_SameTexts_c), (77, R2_SameCurves_c)]
theorem tbl_R2_ok : okT Try.prog tbl_R2 := ⟨R2_Mod_s, R2_Round_s, R2_SameInts_s, R2_SameProfiles_s, R2_Floor_s, R2_SameGrids_s, R2_SameTexts_s, R2_SameCurves_s, trivial⟩

end Go.Proofs.Ytogbkhopanaoiaa
namespace Go.Proofs.Ytogbkhopanaoiaa
open Go Go.Lite
set_option linter.unusedVariables false

/-- printworks/printworkskeep2.ConditionSpots -/
def K2_ConditionSpots_r0 : List SO := [⟨(some 3), .box 28 (.tmp (0 : Nat)), none⟩,
  ⟨(some 6), .assign (.const (.bool false)), none⟩]
def K2_ConditionSpots_r1 : List SO := [⟨(some 16), .call ⟨(.value (.func (10 : Nat))), #[], #[]⟩, none⟩,
  ⟨(some 17), .unOp .not 4 (.tmp (16 : Nat)), none⟩]
def K2_ConditionSpots_r2 : List SO := [⟨(some 6), .assign (.const (.bool false)), none⟩]
def K2_ConditionSpots_r3 : List SO := [⟨(some 18), .load 28 (.tmp (3 : Nat)), none⟩,
  ⟨(some 19), .call ⟨(.value (.func (15 : Nat))), #[(.tmp (18 : Nat))], #[28]⟩, none⟩,
  ⟨(some 20), .binOp .neq 33 (.tmp (19 : Nat)) (.const (.int .i64 0)) 33, none⟩,
  ⟨(some 21), .move (.tmp (20 : Nat)), none⟩,
  ⟨(some 22), .fieldAddr 28 (.tmp (3 : Nat)) 5, (some (21, false))⟩,
  ⟨(some 23), .load 26 (.tmp (22 : Nat)), (some (21, false))⟩,
  ⟨(some 24), .call ⟨(.builtin .len), #[(.tmp (23 : Nat))], #[26]⟩, (some (21, false))⟩,
  ⟨(some 25), .binOp .eql 3 (.tmp (24 : Nat)) (.const (.int .i64 0)) 3, (some (21, false))⟩,
  ⟨(some 26), .pick (.tmp (21 : Nat)) (.const (.bool true)) (.tmp (25 : Nat)), none⟩]
def K2_ConditionSpots_r4 : List SO := [⟨(some 6), .assign (.const (.bool true)), none⟩]
def K2_ConditionSpots_r5 : List SO := [⟨(some 27), .fieldAddr 28 (.tmp (3 : Nat)) 5, none⟩,
  ⟨(some 28), .load 26 (.tmp (27 : Nat)), none⟩,
  ⟨(some 29), .move (.tmp (1 : Nat)), none⟩,
  ⟨(some 30), .fieldAddr 28 (.tmp (3 : Nat)) 5, none⟩,
  ⟨(some 31), .load 26 (.tmp (30 : Nat)), none⟩,
  ⟨(some 32), .call ⟨(.builtin .len), #[(.tmp (31 : Nat))], #[26]⟩, none⟩,
  ⟨(some 33), .call ⟨(.value (.func (16 : Nat))), #[(.tmp (29 : Nat)), (.tmp (32 : Nat))], #[3, 3]⟩, none⟩,
  ⟨(some 34), .indexAddr 26 (.tmp (28 : Nat)) (.tmp (33 : Nat)), none⟩,
  ⟨(some 35), .load 48 (.tmp (34 : Nat)), none⟩,
  ⟨(some 7), .alloc 48, none⟩,
  ⟨none, .store 48 (.tmp (7 : Nat)) (.tmp (35 : Nat)), none⟩]
def K2_ConditionSpots_a5 : List (List Nat) := [[], [0], [], [], [3], [4], [2, 5], [1, 6], [7], [], [9, 8, 6, 0, 1, 2, 3, 4, 5, 6, 7, 8, 9]]
def K2_ConditionSpots_r6 : List SO := [⟨(some 36), .fieldAddr 28 (.tmp (3 : Nat)) 0, none⟩,
  ⟨(some 37), .load 22 (.tmp (36 : Nat)), none⟩,
  ⟨(some 38), .call ⟨(.builtin .len), #[(.tmp (37 : Nat))], #[22]⟩, none⟩,
  ⟨(some 39), .move (.const (.int .i64 0)), none⟩]
def K2_ConditionSpots_r7 : List SO := [⟨(some 40), .binOp .lss 3 (.tmp (39 : Nat)) (.tmp (38 : Nat)) 3, none⟩]
def K2_ConditionSpots_r8 : List SO := [⟨(some 41), .indexAddr 22 (.tmp (37 : Nat)) (.tmp (39 : Nat)), none⟩,
  ⟨(some 42), .load 9 (.tmp (41 : Nat)), none⟩,
  ⟨(some 9), .assign (.tmp (42 : Nat)), none⟩]
def K2_ConditionSpots_r9 : List SO := [⟨(some 43), .move (.tmp (9 : Nat)), none⟩,
  ⟨(some 44), .fieldAddr 48 (.tmp (7 : Nat)) 0, none⟩,
  ⟨(some 45), .load 9 (.tmp (44 : Nat)), none⟩,
  ⟨(some 46), .binOp .eql 9 (.tmp (43 : Nat)) (.tmp (45 : Nat)) 9, none⟩]
def K2_ConditionSpots_r10 : List SO := [⟨(some 6), .assign (.const (.bool true)), none⟩]
def K2_ConditionSpots_r11 : List SO := [⟨(some 47), .binOp .add 3 (.tmp (39 : Nat)) (.const (.int .i64 1)) 3, none⟩,
  ⟨(some 39), .move (.tmp (47 : Nat)), none⟩]
def K2_ConditionSpots_r12 : List SO := [⟨(some 49), .load 28 (.tmp (3 : Nat)), none⟩,
  ⟨(some 50), .fieldAddr 48 (.tmp (7 : Nat)) 0, none⟩,
  ⟨(some 51), .load 9 (.tmp (50 : Nat)), none⟩,
  ⟨(some 52), .move (.tmp (2 : Nat)), none⟩,
  ⟨(some 53), .call ⟨(.value (.func (14 : Nat))), #[(.tmp (49 : Nat)), (.tmp (51 : Nat)), (.tmp (52 : Nat))], #[28, 9, 5]⟩, none⟩,
  ⟨(some 48), .move (.tmp (53 : Nat)), none⟩,
  ⟨(some 54), .extract (.tmp (48 : Nat)) 0, none⟩,
  ⟨(some 55), .extract (.tmp (48 : Nat)) 1, none⟩,
  ⟨(some 10), .alloc 32, none⟩,
  ⟨none, .store 32 (.tmp (10 : Nat)) (.tmp (54 : Nat)), none⟩,
  ⟨(some 11), .assign (.tmp (55 : Nat)), none⟩]
def K2_ConditionSpots_r13 : List SO := [⟨(some 57), .load 48 (.tmp (7 : Nat)), none⟩,
  ⟨(some 58), .move (.tmp (2 : Nat)), none⟩,
  ⟨(some 59), .convert 5 3 (.tmp (58 : Nat)), none⟩,
  ⟨(some 60), .call ⟨(.value (.func (17 : Nat))), #[(.tmp (57 : Nat)), (.tmp (59 : Nat))], #[48, 3]⟩, none⟩,
  ⟨(some 56), .move (.tmp (60 : Nat)), none⟩,
  ⟨(some 61), .extract (.tmp (56 : Nat)) 0, none⟩,
  ⟨(some 62), .extract (.tmp (56 : Nat)) 1, none⟩,
  ⟨(some 12), .assign (.tmp (61 : Nat)), none⟩,
  ⟨(some 13), .assign (.tmp (62 : Nat)), none⟩]
def K2_ConditionSpots_r14 : List SO := [⟨(some 63), .move (.tmp (11 : Nat)), none⟩,
  ⟨(some 64), .binOp .neq 33 (.tmp (63 : Nat)) (.const (.int .i64 0)) 33, none⟩,
  ⟨(some 65), .move (.tmp (64 : Nat)), none⟩,
  ⟨(some 66), .move (.tmp (13 : Nat)), (some (65, false))⟩,
  ⟨(some 67), .binOp .neq 33 (.tmp (66 : Nat)) (.const (.int .i64 0)) 33, (some (65, false))⟩,
  ⟨(some 68), .pick (.tmp (65 : Nat)) (.const (.bool true)) (.tmp (67 : Nat)), none⟩,
  ⟨(some 69), .move (.tmp (68 : Nat)), none⟩,
  ⟨(some 70), .move (.tmp (12 : Nat)), (some (69, false))⟩,
  ⟨(some 71), .call ⟨(.builtin .len), #[(.tmp (70 : Nat))], #[23]⟩, (some (69, false))⟩,
  ⟨(some 72), .binOp .neq 3 (.tmp (71 : Nat)) (.const (.int .i64 4)) 3, (some (69, false))⟩,
  ⟨(some 73), .pick (.tmp (69 : Nat)) (.const (.bool true)) (.tmp (72 : Nat)), none⟩]
def K2_ConditionSpots_r15 : List SO := [⟨(some 6), .assign (.const (.bool false)), none⟩]
def K2_ConditionSpots_r16 : List SO := [⟨(some 75), .load 28 (.tmp (3 : Nat)), none⟩,
  ⟨(some 76), .move (.tmp (12 : Nat)), none⟩,
  ⟨(some 77), .indexAddr 23 (.tmp (76 : Nat)) (.const (.int .i64 0)), none⟩,
  ⟨(some 78), .load 3 (.tmp (77 : Nat)), none⟩,
  ⟨(some 79), .convert 3 5 (.tmp (78 : Nat)), none⟩,
  ⟨(some 80), .move (.tmp (12 : Nat)), none⟩,
  ⟨(some 81), .indexAddr 23 (.tmp (80 : Nat)) (.const (.int .i64 1)), none⟩,
  ⟨(some 82), .load 3 (.tmp (81 : Nat)), none⟩,
  ⟨(some 83), .convert 3 5 (.tmp (82 : Nat)), none⟩,
  ⟨(some 84), .move (.tmp (12 : Nat)), none⟩,
  ⟨(some 85), .indexAddr 23 (.tmp (84 : Nat)) (.const (.int .i64 2)), none⟩,
  ⟨(some 86), .load 3 (.tmp (85 : Nat)), none⟩,
  ⟨(some 87), .convert 3 5 (.tmp (86 : Nat)), none⟩,
  ⟨(some 88), .move (.tmp (12 : Nat)), none⟩,
  ⟨(some 89), .indexAddr 23 (.tmp (88 : Nat)) (.const (.int .i64 3)), none⟩,
  ⟨(some 90), .load 3 (.tmp (89 : Nat)), none⟩,
  ⟨(some 91), .convert 3 5 (.tmp (90 : Nat)), none⟩,
  ⟨(some 92), .build 29 #[(0, (.tmp (79 : Nat))), (1, (.tmp (83 : Nat))), (2, (.tmp (87 : Nat))), (3, (.tmp (91 : Nat)))], none⟩,
  ⟨(some 93), .call ⟨(.value (.func (13 : Nat))), #[(.tmp (75 : Nat)), (.tmp (92 : Nat))], #[28, 29]⟩, none⟩,
  ⟨(some 74), .move (.tmp (93 : Nat)), none⟩,
  ⟨(some 94), .extract (.tmp (74 : Nat)) 0, none⟩,
  ⟨(some 95), .extract (.tmp (74 : Nat)) 1, none⟩,
  ⟨(some 14), .alloc 32, none⟩,
  ⟨none, .store 32 (.tmp (14 : Nat)) (.tmp (94 : Nat)), none⟩,
  ⟨(some 15), .assign (.tmp (95 : Nat)), none⟩]
def K2_ConditionSpots_a16 : List (List Nat) := [[], [], [1], [2], [3], [], [5], [6], [7], [], [9], [10], [11], [], [13], [14], [15], [4, 8, 12, 16], [0, 17], [18], [19], [19], [], [22, 20, 18, 0, 1, 2, 3, 4, 5, 6, 7, 8, 9, 10, 11, 12, 13, 14, 15, 16, 17, 18, 19, 20, 22], [21, 23, 0, 1, 2, 3, 4, 5, 6, 7, 8, 9, 10, 11, 12, 13, 14, 15, 16, 17, 18, 19, 20, 21, 22, 23]]
def K2_ConditionSpots_r17 : List SO := [⟨(some 96), .move (.tmp (15 : Nat)), none⟩,
  ⟨(some 97), .binOp .eql 33 (.tmp (96 : Nat)) (.const (.int .i64 0)) 33, none⟩,
  ⟨(some 98), .move (.tmp (97 : Nat)), none⟩,
  ⟨(some 99), .load 32 (.tmp (10 : Nat)), (some (98, true))⟩,
  ⟨(some 100), .load 32 (.tmp (14 : Nat)), (some (98, true))⟩,
  ⟨(some 101), .binOp .eql 32 (.tmp (99 : Nat)) (.tmp (100 : Nat)) 32, (some (98, true))⟩,
  ⟨(some 102), .pick (.tmp (98 : Nat)) (.tmp (101 : Nat)) (.const (.bool false)), none⟩,
  ⟨(some 6), .assign (.tmp (102 : Nat)), none⟩]
def K2_ConditionSpots_c : SF := ⟨103, (.seq (.reg K2_ConditionSpots_r0)
  (.seq (.seq (.reg K2_ConditionSpots_r1)
  (.cond (.tmp (17 : Nat)) (.seq (.reg K2_ConditionSpots_r2)
  .ret) .skip))
  (.seq (.seq (.reg K2_ConditionSpots_r3)
  (.cond (.tmp (26 : Nat)) (.seq (.reg K2_ConditionSpots_r4)
  .ret) .skip))
  (.seq (.regd K2_ConditionSpots_r5 K2_ConditionSpots_a5)
  (.seq (.seq (.reg K2_ConditionSpots_r6)
  (.block 0 (.loop (.seq (.reg K2_ConditionSpots_r7)
  (.seq (.cond (.tmp (40 : Nat)) .skip (.exit 0))
  (.seq (.block 1 (.seq (.reg K2_ConditionSpots_r8)
  (.seq (.reg K2_ConditionSpots_r9)
  (.cond (.tmp (46 : Nat)) (.seq (.reg K2_ConditionSpots_r10)
  .ret) .skip))))
  (.reg K2_ConditionSpots_r11)))))))
  (.seq (.reg K2_ConditionSpots_r12)
  (.seq (.reg K2_ConditionSpots_r13)
  (.seq (.seq (.reg K2_ConditionSpots_r14)
  (.cond (.tmp (73 : Nat)) (.seq (.reg K2_ConditionSpots_r15)
  .ret) .skip))
  (.seq (.regd K2_ConditionSpots_r16 K2_ConditionSpots_a16)
  (.seq (.reg K2_ConditionSpots_r17)
  .ret)))))))))), [.tmp 6]⟩
theorem K2_ConditionSpots_s : slimF Try.prog 4 = some K2_ConditionSpots_c := by kernel_rfl
abbrev K2_ConditionSpots_f : Nat := 4

end Go.Proofs.Ytogbkhopanaoiaa
