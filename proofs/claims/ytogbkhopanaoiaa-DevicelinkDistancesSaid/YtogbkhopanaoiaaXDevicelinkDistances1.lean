/- Printed by program: the functions' code in few words; the kernel checks it against the translation. -/
import Derived.Test.YtogbkhopanaoiaaXDevicelinkDistances0
namespace Go.Proofs.Ytogbkhopanaoiaa
open Go Go.Lite
set_option linter.unusedVariables false

end Go.Proofs.Ytogbkhopanaoiaa
namespace Go.Proofs.Ytogbkhopanaoiaa
open Go Go.Lite
set_option linter.unusedVariables false

end Go.Proofs.Ytogbkhopanaoiaa
namespace Go.Proofs.Ytogbkhopanaoiaa
open Go Go.Lite
set_option linter.unusedVariables false

/-- printworks/printworksref2.Mod -/
def R2_Mod_r0 : List SO := [⟨(some 4), .assign (.const (.int .i64 0)), none⟩]
def R2_Mod_r1 : List SO := [⟨(some 5), .move (.tmp (0 : Nat)), none⟩,
  ⟨(some 6), .move (.tmp (1 : Nat)), none⟩,
  ⟨(some 7), .move (.tmp (0 : Nat)), none⟩,
  ⟨(some 8), .move (.tmp (1 : Nat)), none⟩,
  ⟨(some 9), .call ⟨(.value (.func (45 : Nat))), #[(.tmp (7 : Nat)), (.tmp (8 : Nat))], #[3, 3]⟩, none⟩,
  ⟨(some 10), .binOp .mul 3 (.tmp (6 : Nat)) (.tmp (9 : Nat)) 3, none⟩,
  ⟨(some 11), .binOp .sub 3 (.tmp (5 : Nat)) (.tmp (10 : Nat)) 3, none⟩,
  ⟨(some 4), .assign (.tmp (11 : Nat)), none⟩]
def R2_Mod_c : SF := ⟨12, (.seq (.reg R2_Mod_r0)
  (.seq (.reg R2_Mod_r1)
  .ret)), [.tmp 4]⟩
theorem R2_Mod_s : slimF Try.prog 16 = some R2_Mod_c := by kernel_rfl
/-- printworks/printworksref2.Round -/
def R2_Round_r0 : List SO := [⟨(some 4), .assign (.const (.int .i64 0)), none⟩]
def R2_Round_r1 : List SO := [⟨(some 6), .move (.tmp (0 : Nat)), none⟩,
  ⟨(some 7), .move (.tmp (1 : Nat)), none⟩,
  ⟨(some 8), .call ⟨(.value (.func (45 : Nat))), #[(.tmp (6 : Nat)), (.tmp (7 : Nat))], #[3, 3]⟩, none⟩,
  ⟨(some 5), .assign (.tmp (8 : Nat)), none⟩]
def R2_Round_r2 : List SO := [⟨(some 9), .move (.tmp (0 : Nat)), none⟩,
  ⟨(some 10), .move (.tmp (5 : Nat)), none⟩,
  ⟨(some 11), .move (.tmp (1 : Nat)), none⟩,
  ⟨(some 12), .binOp .mul 3 (.tmp (10 : Nat)) (.tmp (11 : Nat)) 3, none⟩,
  ⟨(some 13), .binOp .sub 3 (.tmp (9 : Nat)) (.tmp (12 : Nat)) 3, none⟩,
  ⟨(some 14), .binOp .mul 3 (.const (.int .i64 2)) (.tmp (13 : Nat)) 3, none⟩,
  ⟨(some 15), .move (.tmp (1 : Nat)), none⟩,
  ⟨(some 16), .binOp .geq 3 (.tmp (14 : Nat)) (.tmp (15 : Nat)) 3, none⟩]
def R2_Round_r3 : List SO := [⟨(some 17), .move (.tmp (5 : Nat)), none⟩,
  ⟨(some 18), .binOp .add 3 (.tmp (17 : Nat)) (.const (.int .i64 1)) 3, none⟩,
  ⟨(some 5), .assign (.tmp (18 : Nat)), none⟩]
def R2_Round_r4 : List SO := [⟨(some 19), .move (.tmp (5 : Nat)), none⟩,
  ⟨(some 4), .assign (.tmp (19 : Nat)), none⟩]
def R2_Round_c : SF := ⟨20, (.seq (.reg R2_Round_r0)
  (.seq (.reg R2_Round_r1)
  (.seq (.seq (.reg R2_Round_r2)
  (.cond (.tmp (16 : Nat)) (.reg R2_Round_r3) .skip))
  (.seq (.reg R2_Round_r4)
  .ret)))), [.tmp 4]⟩
theorem R2_Round_s : slimF Try.prog 23 = some R2_Round_c := by kernel_rfl
/-- printworks/printworksref2.SameInts -/
def R2_SameInts_r0 : List SO := [⟨(some 4), .assign (.const (.bool false)), none⟩]
def R2_SameInts_r1 : List SO := [⟨(some 6), .move (.tmp (0 : Nat)), none⟩,
  ⟨(some 7), .call ⟨(.builtin .len), #[(.tmp (6 : Nat))], #[23]⟩, none⟩,
  ⟨(some 8), .move (.tmp (1 : Nat)), none⟩,
  ⟨(some 9), .call ⟨(.builtin .len), #[(.tmp (8 : Nat))], #[23]⟩, none⟩,
  ⟨(some 10), .binOp .neq 3 (.tmp (7 : Nat)) (.tmp (9 : Nat)) 3, none⟩]
def R2_SameInts_r2 : List SO := [⟨(some 4), .assign (.const (.bool false)), none⟩]
def R2_SameInts_r3 : List SO := [⟨(some 11), .move (.tmp (0 : Nat)), none⟩,
  ⟨(some 12), .call ⟨(.builtin .len), #[(.tmp (11 : Nat))], #[23]⟩, none⟩,
  ⟨(some 13), .move (.const (.int .i64 0)), none⟩]
def R2_SameInts_r4 : List SO := [⟨(some 14), .binOp .lss 3 (.tmp (13 : Nat)) (.tmp (12 : Nat)) 3, none⟩]
def R2_SameInts_r5 : List SO := [⟨(some 15), .move (.tmp (13 : Nat)), none⟩,
  ⟨(some 5), .assign (.tmp (15 : Nat)), none⟩]
def R2_SameInts_r6 : List SO := [⟨(some 16), .move (.tmp (0 : Nat)), none⟩,
  ⟨(some 17), .move (.tmp (5 : Nat)), none⟩,
  ⟨(some 18), .indexAddr 23 (.tmp (16 : Nat)) (.tmp (17 : Nat)), none⟩,
  ⟨(some 19), .load 3 (.tmp (18 : Nat)), none⟩,
  ⟨(some 20), .move (.tmp (1 : Nat)), none⟩,
  ⟨(some 21), .move (.tmp (5 : Nat)), none⟩,
  ⟨(some 22), .indexAddr 23 (.tmp (20 : Nat)) (.tmp (21 : Nat)), none⟩,
  ⟨(some 23), .load 3 (.tmp (22 : Nat)), none⟩,
  ⟨(some 24), .binOp .neq 3 (.tmp (19 : Nat)) (.tmp (23 : Nat)) 3, none⟩]
def R2_SameInts_a6 : List (List Nat) := [[], [], [0, 1], [2], [], [], [4, 5], [6], [3, 7]]
def R2_SameInts_r7 : List SO := [⟨(some 4), .assign (.const (.bool false)), none⟩]
def R2_SameInts_r8 : List SO := [⟨(some 25), .binOp .add 3 (.tmp (13 : Nat)) (.const (.int .i64 1)) 3, none⟩,
  ⟨(some 13), .move (.tmp (25 : Nat)), none⟩]
def R2_SameInts_r9 : List SO := [⟨(some 4), .assign (.const (.bool true)), none⟩]
def R2_SameInts_c : SF := ⟨26, (.seq (.reg R2_SameInts_r0)
  (.seq (.seq (.reg R2_SameInts_r1)
  (.cond (.tmp (10 : Nat)) (.seq (.reg R2_SameInts_r2)
  .ret) .skip))
  (.seq (.seq (.reg R2_SameInts_r3)
  (.block 0 (.loop (.seq (.reg R2_SameInts_r4)
  (.seq (.cond (.tmp (14 : Nat)) .skip (.exit 0))
  (.seq (.block 1 (.seq (.reg R2_SameInts_r5)
  (.seq (.regd R2_SameInts_r6 R2_SameInts_a6)
  (.cond (.tmp (24 : Nat)) (.seq (.reg R2_SameInts_r7)
  .ret) .skip))))
  (.reg R2_SameInts_r8)))))))
  (.seq (.reg R2_SameInts_r9)
  .ret)))), [.tmp 4]⟩
theorem R2_SameInts_s : slimF Try.prog 24 = some R2_SameInts_c := by kernel_rfl
/-- printworks/printworksref2.SameProfiles -/
def R2_SameProfiles_r0 : List SO := [⟨(some 2), .box 62 (.tmp (0 : Nat)), none⟩,
  ⟨(some 3), .box 62 (.tmp (1 : Nat)), none⟩,
  ⟨(some 4), .assign (.const (.bool false)), none⟩]
def R2_SameProfiles_r1 : List SO := [⟨(some 6), .fieldAddr 62 (.tmp (2 : Nat)) 0, none⟩,
  ⟨(some 7), .load 9 (.tmp (6 : Nat)), none⟩,
  ⟨(some 8), .fieldAddr 62 (.tmp (3 : Nat)) 0, none⟩,
  ⟨(some 9), .load 9 (.tmp (8 : Nat)), none⟩,
  ⟨(some 10), .binOp .neq 9 (.tmp (7 : Nat)) (.tmp (9 : Nat)) 9, none⟩,
  ⟨(some 11), .move (.tmp (10 : Nat)), none⟩,
  ⟨(some 12), .fieldAddr 62 (.tmp (2 : Nat)) 1, (some (11, false))⟩,
  ⟨(some 13), .load 22 (.tmp (12 : Nat)), (some (11, false))⟩,
  ⟨(some 14), .fieldAddr 62 (.tmp (3 : Nat)) 1, (some (11, false))⟩,
  ⟨(some 15), .load 22 (.tmp (14 : Nat)), (some (11, false))⟩,
  ⟨(some 16), .call ⟨(.value (.func (63 : Nat))), #[(.tmp (13 : Nat)), (.tmp (15 : Nat))], #[22, 22]⟩, (some (11, false))⟩,
  ⟨(some 17), .unOp .not 4 (.tmp (16 : Nat)), (some (11, false))⟩,
  ⟨(some 18), .pick (.tmp (11 : Nat)) (.const (.bool true)) (.tmp (17 : Nat)), none⟩,
  ⟨(some 19), .move (.tmp (18 : Nat)), none⟩,
  ⟨(some 20), .fieldAddr 62 (.tmp (2 : Nat)) 2, (some (19, false))⟩,
  ⟨(some 21), .load 60 (.tmp (20 : Nat)), (some (19, false))⟩,
  ⟨(some 22), .call ⟨(.builtin .len), #[(.tmp (21 : Nat))], #[60]⟩, (some (19, false))⟩,
  ⟨(some 23), .fieldAddr 62 (.tmp (3 : Nat)) 2, (some (19, false))⟩,
  ⟨(some 24), .load 60 (.tmp (23 : Nat)), (some (19, false))⟩,
  ⟨(some 25), .call ⟨(.builtin .len), #[(.tmp (24 : Nat))], #[60]⟩, (some (19, false))⟩,
  ⟨(some 26), .binOp .neq 3 (.tmp (22 : Nat)) (.tmp (25 : Nat)) 3, (some (19, false))⟩,
  ⟨(some 27), .pick (.tmp (19 : Nat)) (.const (.bool true)) (.tmp (26 : Nat)), none⟩,
  ⟨(some 28), .move (.tmp (27 : Nat)), none⟩,
  ⟨(some 29), .fieldAddr 62 (.tmp (2 : Nat)) 3, (some (28, false))⟩,
  ⟨(some 30), .load 25 (.tmp (29 : Nat)), (some (28, false))⟩,
  ⟨(some 31), .fieldAddr 62 (.tmp (3 : Nat)) 3, (some (28, false))⟩,
  ⟨(some 32), .load 25 (.tmp (31 : Nat)), (some (28, false))⟩,
  ⟨(some 33), .call ⟨(.value (.func (55 : Nat))), #[(.tmp (30 : Nat)), (.tmp (32 : Nat))], #[25, 25]⟩, (some (28, false))⟩,
  ⟨(some 34), .unOp .not 4 (.tmp (33 : Nat)), (some (28, false))⟩,
  ⟨(some 35), .pick (.tmp (28 : Nat)) (.const (.bool true)) (.tmp (34 : Nat)), none⟩]
def R2_SameProfiles_r2 : List SO := [⟨(some 4), .assign (.const (.bool false)), none⟩]
def R2_SameProfiles_r3 : List SO := [⟨(some 36), .fieldAddr 62 (.tmp (2 : Nat)) 2, none⟩,
  ⟨(some 37), .load 60 (.tmp (36 : Nat)), none⟩,
  ⟨(some 38), .call ⟨(.builtin .len), #[(.tmp (37 : Nat))], #[60]⟩, none⟩,
  ⟨(some 39), .move (.const (.int .i64 0)), none⟩]
def R2_SameProfiles_r4 : List SO := [⟨(some 40), .binOp .lss 3 (.tmp (39 : Nat)) (.tmp (38 : Nat)) 3, none⟩]
def R2_SameProfiles_r5 : List SO := [⟨(some 41), .move (.tmp (39 : Nat)), none⟩,
  ⟨(some 5), .assign (.tmp (41 : Nat)), none⟩]
def R2_SameProfiles_r6 : List SO := [⟨(some 42), .fieldAddr 62 (.tmp (2 : Nat)) 2, none⟩,
  ⟨(some 43), .load 60 (.tmp (42 : Nat)), none⟩,
  ⟨(some 44), .move (.tmp (5 : Nat)), none⟩,
  ⟨(some 45), .indexAddr 60 (.tmp (43 : Nat)) (.tmp (44 : Nat)), none⟩,
  ⟨(some 46), .load 46 (.tmp (45 : Nat)), none⟩,
  ⟨(some 47), .fieldAddr 62 (.tmp (3 : Nat)) 2, none⟩,
  ⟨(some 48), .load 60 (.tmp (47 : Nat)), none⟩,
  ⟨(some 49), .move (.tmp (5 : Nat)), none⟩,
  ⟨(some 50), .indexAddr 60 (.tmp (48 : Nat)) (.tmp (49 : Nat)), none⟩,
  ⟨(some 51), .load 46 (.tmp (50 : Nat)), none⟩,
  ⟨(some 52), .call ⟨(.value (.func (77 : Nat))), #[(.tmp (46 : Nat)), (.tmp (51 : Nat))], #[46, 46]⟩, none⟩,
  ⟨(some 53), .unOp .not 4 (.tmp (52 : Nat)), none⟩]
def R2_SameProfiles_a6 : List (List Nat) := [[], [0], [], [1, 2], [3], [], [5], [], [6, 7], [8], [4, 9], [10]]
def R2_SameProfiles_r7 : List SO := [⟨(some 4), .assign (.const (.bool false)), none⟩]
def R2_SameProfiles_r8 : List SO := [⟨(some 54), .binOp .add 3 (.tmp (39 : Nat)) (.const (.int .i64 1)) 3, none⟩,
  ⟨(some 39), .move (.tmp (54 : Nat)), none⟩]
def R2_SameProfiles_r9 : List SO := [⟨(some 4), .assign (.const (.bool true)), none⟩]
def R2_SameProfiles_c : SF := ⟨55, (.seq (.reg R2_SameProfiles_r0)
  (.seq (.seq (.reg R2_SameProfiles_r1)
  (.cond (.tmp (35 : Nat)) (.seq (.reg R2_SameProfiles_r2)
  .ret) .skip))
  (.seq (.seq (.reg R2_SameProfiles_r3)
  (.block 0 (.loop (.seq (.reg R2_SameProfiles_r4)
  (.seq (.cond (.tmp (40 : Nat)) .skip (.exit 0))
  (.seq (.block 1 (.seq (.reg R2_SameProfiles_r5)
  (.seq (.regd R2_SameProfiles_r6 R2_SameProfiles_a6)
  (.cond (.tmp (53 : Nat)) (.seq (.reg R2_SameProfiles_r7)
  .ret) .skip))))
  (.reg R2_SameProfiles_r8)))))))
  (.seq (.reg R2_SameProfiles_r9)
  .ret)))), [.tmp 4]⟩
theorem R2_SameProfiles_s : slimF Try.prog 35 = some R2_SameProfiles_c := by kernel_rfl
/-- printworks/printworksref2.Floor -/
def R2_Floor_r0 : List SO := [⟨(some 4), .assign (.const (.int .i64 0)), none⟩]
def R2_Floor_r1 : List SO := [⟨(some 6), .move (.tmp (0 : Nat)), none⟩,
  ⟨(some 7), .move (.tmp (1 : Nat)), none⟩,
  ⟨(some 8), .binOp .quo 3 (.tmp (6 : Nat)) (.tmp (7 : Nat)) 3, none⟩,
  ⟨(some 5), .assign (.tmp (8 : Nat)), none⟩]
def R2_Floor_r2 : List SO := [⟨(some 9), .move (.tmp (5 : Nat)), none⟩,
  ⟨(some 10), .move (.tmp (1 : Nat)), none⟩,
  ⟨(some 11), .binOp .mul 3 (.tmp (9 : Nat)) (.tmp (10 : Nat)) 3, none⟩,
  ⟨(some 12), .move (.tmp (0 : Nat)), none⟩,
  ⟨(some 13), .binOp .gtr 3 (.tmp (11 : Nat)) (.tmp (12 : Nat)) 3, none⟩]
def R2_Floor_r3 : List SO := [⟨(some 14), .move (.tmp (5 : Nat)), none⟩,
  ⟨(some 15), .binOp .sub 3 (.tmp (14 : Nat)) (.const (.int .i64 1)) 3, none⟩,
  ⟨(some 5), .assign (.tmp (15 : Nat)), none⟩]
def R2_Floor_r4 : List SO := [⟨(some 16), .move (.tmp (5 : Nat)), none⟩,
  ⟨(some 4), .assign (.tmp (16 : Nat)), none⟩]
def R2_Floor_c : SF := ⟨17, (.seq (.reg R2_Floor_r0)
  (.seq (.reg R2_Floor_r1)
  (.seq (.seq (.reg R2_Floor_r2)
  (.cond (.tmp (13 : Nat)) (.reg R2_Floor_r3) .skip))
  (.seq (.reg R2_Floor_r4)
  .ret)))), [.tmp 4]⟩
theorem R2_Floor_s : slimF Try.prog 45 = some R2_Floor_c := by kernel_rfl
/-- printworks/printworksref2.SameGrids -/
def R2_SameGrids_r0 : List SO := [⟨(some 2), .box 25 (.tmp (0 : Nat)), none⟩,
  ⟨(some 3), .box 25 (.tmp (1 : Nat)), none⟩,
  ⟨(some 4), .assign (.const (.bool false)), none⟩]
def R2_SameGrids_r1 : List SO := [⟨(some 5), .fieldAddr 25 (.tmp (2 : Nat)) 0, none⟩,
  ⟨(some 6), .load 3 (.tmp (5 : Nat)), none⟩,
  ⟨(some 7), .fieldAddr 25 (.tmp (3 : Nat)) 0, none⟩,
  ⟨(some 8), .load 3 (.tmp (7 : Nat)), none⟩,
  ⟨(some 9), .binOp .eql 3 (.tmp (6 : Nat)) (.tmp (8 : Nat)) 3, none⟩,
  ⟨(some 10), .move (.tmp (9 : Nat)), none⟩,
  ⟨(some 11), .fieldAddr 25 (.tmp (2 : Nat)) 1, (some (10, true))⟩,
  ⟨(some 12), .load 3 (.tmp (11 : Nat)), (some (10, true))⟩,
  ⟨(some 13), .fieldAddr 25 (.tmp (3 : Nat)) 1, (some (10, true))⟩,
  ⟨(some 14), .load 3 (.tmp (13 : Nat)), (some (10, true))⟩,
  ⟨(some 15), .binOp .eql 3 (.tmp (12 : Nat)) (.tmp (14 : Nat)) 3, (some (10, true))⟩,
  ⟨(some 16), .pick (.tmp (10 : Nat)) (.tmp (15 : Nat)) (.const (.bool false)), none⟩,
  ⟨(some 17), .move (.tmp (16 : Nat)), none⟩,
  ⟨(some 18), .fieldAddr 25 (.tmp (2 : Nat)) 2, (some (17, true))⟩,
  ⟨(some 19), .load 3 (.tmp (18 : Nat)), (some (17, true))⟩,
  ⟨(some 20), .fieldAddr 25 (.tmp (3 : Nat)) 2, (some (17, true))⟩,
  ⟨(some 21), .load 3 (.tmp (20 : Nat)), (some (17, true))⟩,
  ⟨(some 22), .binOp .eql 3 (.tmp (19 : Nat)) (.tmp (21 : Nat)) 3, (some (17, true))⟩,
  ⟨(some 23), .pick (.tmp (17 : Nat)) (.tmp (22 : Nat)) (.const (.bool false)), none⟩,
  ⟨(some 24), .move (.tmp (23 : Nat)), none⟩,
  ⟨(some 25), .fieldAddr 25 (.tmp (2 : Nat)) 3, (some (24, true))⟩,
  ⟨(some 26), .load 23 (.tmp (25 : Nat)), (some (24, true))⟩,
  ⟨(some 27), .fieldAddr 25 (.tmp (3 : Nat)) 3, (some (24, true))⟩,
  ⟨(some 28), .load 23 (.tmp (27 : Nat)), (some (24, true))⟩,
  ⟨(some 29), .call ⟨(.value (.func (24 : Nat))), #[(.tmp (26 : Nat)), (.tmp (28 : Nat))], #[23, 23]⟩, (some (24, true))⟩,
  ⟨(some 30), .pick (.tmp (24 : Nat)) (.tmp (29 : Nat)) (.const (.bool false)), none⟩,
  ⟨(some 4), .assign (.tmp (30 : Nat)), none⟩]
def R2_SameGrids_c : SF := ⟨31, (.seq (.reg R2_SameGrids_r0)
  (.seq (.reg R2_SameGrids_r1)
  .ret)), [.tmp 4]⟩
theorem R2_SameGrids_s : slimF Try.prog 55 = some R2_SameGrids_c := by kernel_rfl
/-- printworks/printworksref2.SameTexts -/
def R2_SameTexts_r0 : List SO := [⟨(some 4), .assign (.const (.bool false)), none⟩]
def R2_SameTexts_r1 : List SO := [⟨(some 6), .move (.tmp (0 : Nat)), none⟩,
  ⟨(some 7), .call ⟨(.builtin .len), #[(.tmp (6 : Nat))], #[22]⟩, none⟩,
  ⟨(some 8), .move (.tmp (1 : Nat)), none⟩,
  ⟨(some 9), .call ⟨(.builtin .len), #[(.tmp (8 : Nat))], #[22]⟩, none⟩,
  ⟨(some 10), .binOp .neq 3 (.tmp (7 : Nat)) (.tmp (9 : Nat)) 3, none⟩]
def R2_SameTexts_r2 : List SO := [⟨(some 4), .assign (.const (.bool false)), none⟩]
def R2_SameTexts_r3 : List SO := [⟨(some 11), .move (.tmp (0 : Nat)), none⟩,
  ⟨(some 12), .call ⟨(.builtin .len), #[(.tmp (11 : Nat))], #[22]⟩, none⟩,
  ⟨(some 13), .move (.const (.int .i64 0)), none⟩]
def R2_SameTexts_r4 : List SO := [⟨(some 14), .binOp .lss 3 (.tmp (13 : Nat)) (.tmp (12 : Nat)) 3, none⟩]
def R2_SameTexts_r5 : List SO := [⟨(some 15), .move (.tmp (13 : Nat)), none⟩,
  ⟨(some 5), .assign (.tmp (15 : Nat)), none⟩]
def R2_SameTexts_r6 : List SO := [⟨(some 16), .move (.tmp (0 : Nat)), none⟩,
  ⟨(some 17), .move (.tmp (5 : Nat)), none⟩,
  ⟨(some 18), .indexAddr 22 (.tmp (16 : Nat)) (.tmp (17 : Nat)), none⟩,
  ⟨(some 19), .load 9 (.tmp (18 : Nat)), none⟩,
  ⟨(some 20), .move (.tmp (1 : Nat)), none⟩,
  ⟨(some 21), .move (.tmp (5 : Nat)), none⟩,
  ⟨(some 22), .indexAddr 22 (.tmp (20 : Nat)) (.tmp (21 : Nat)), none⟩,
  ⟨(some 23), .load 9 (.tmp (22 : Nat)), none⟩,
  ⟨(some 24), .binOp .neq 9 (.tmp (19 : Nat)) (.tmp (23 : Nat)) 9, none⟩]
def R2_SameTexts_a6 : List (List Nat) := [[], [], [0, 1], [2], [], [], [4, 5], [6], [3, 7]]
def R2_SameTexts_r7 : List SO := [⟨(some 4), .assign (.const (.bool false)), none⟩]
def R2_SameTexts_r8 : List SO := [⟨(some 25), .binOp .add 3 (.tmp (13 : Nat)) (.const (.int .i64 1)) 3, none⟩,
  ⟨(some 13), .move (.tmp (25 : Nat)), none⟩]
def R2_SameTexts_r9 : List SO := [⟨(some 4), .assign (.const (.bool true)), none⟩]
def R2_SameTexts_c : SF := ⟨26, (.seq (.reg R2_SameTexts_r0)
  (.seq (.seq (.reg R2_SameTexts_r1)
  (.cond (.tmp (10 : Nat)) (.seq (.reg R2_SameTexts_r2)
  .ret) .skip))
  (.seq (.seq (.reg R2_SameTexts_r3)
  (.block 0 (.loop (.seq (.reg R2_SameTexts_r4)
  (.seq (.cond (.tmp (14 : Nat)) .skip (.exit 0))
  (.seq (.block 1 (.seq (.reg R2_SameTexts_r5)
  (.seq (.regd R2_SameTexts_r6 R2_SameTexts_a6)
  (.cond (.tmp (24 : Nat)) (.seq (.reg R2_SameTexts_r7)
  .ret) .skip))))
  (.reg R2_SameTexts_r8)))))))
  (.seq (.reg R2_SameTexts_r9)
  .ret)))), [.tmp 4]⟩
theorem R2_SameTexts_s : slimF Try.prog 63 = some R2_SameTexts_c := by kernel_rfl
/-- printworks/printworksref2.SameCurves -/
def R2_SameCurves_r0 : List SO := [⟨(some 2), .box 46 (.tmp (0 : Nat)), none⟩,
  ⟨(some 3), .box 46 (.tmp (1 : Nat)), none⟩,
  ⟨(some 4), .assign (.const (.bool false)), none⟩]
def R2_SameCurves_r1 : List SO := [⟨(some 6), .fieldAddr 46 (.tmp (2 : Nat)) 0, none⟩,
  ⟨(some 7), .load 44 (.tmp (6 : Nat)), none⟩,
  ⟨(some 8), .call ⟨(.builtin .len), #[(.tmp (7 : Nat))], #[44]⟩, none⟩,
  ⟨(some 9), .fieldAddr 46 (.tmp (3 : Nat)) 0, none⟩,
  ⟨(some 10), .load 44 (.tmp (9 : Nat)), none⟩,
  ⟨(some 11), .call ⟨(.builtin .len), #[(.tmp (10 : Nat))], #[44]⟩, none⟩,
  ⟨(some 12), .binOp .neq 3 (.tmp (8 : Nat)) (.tmp (11 : Nat)) 3, none⟩]
def R2_SameCurves_r2 : List SO := [⟨(some 4), .assign (.const (.bool false)), none⟩]
def R2_SameCurves_r3 : List SO := [⟨(some 13), .fieldAddr 46 (.tmp (2 : Nat)) 0, none⟩,
  ⟨(some 14), .load 44 (.tmp (13 : Nat)), none⟩,
  ⟨(some 15), .call ⟨(.builtin .len), #[(.tmp (14 : Nat))], #[44]⟩, none⟩,
  ⟨(some 16), .move (.const (.int .i64 0)), none⟩]
def R2_SameCurves_r4 : List SO := [⟨(some 17), .binOp .lss 3 (.tmp (16 : Nat)) (.tmp (15 : Nat)) 3, none⟩]
def R2_SameCurves_r5 : List SO := [⟨(some 18), .move (.tmp (16 : Nat)), none⟩,
  ⟨(some 5), .assign (.tmp (18 : Nat)), none⟩]
def R2_SameCurves_r6 : List SO := [⟨(some 19), .fieldAddr 46 (.tmp (2 : Nat)) 0, none⟩,
  ⟨(some 20), .load 44 (.tmp (19 : Nat)), none⟩,
  ⟨(some 21), .move (.tmp (5 : Nat)), none⟩,
  ⟨(some 22), .indexAddr 44 (.tmp (20 : Nat)) (.tmp (21 : Nat)), none⟩,
  ⟨(some 23), .load 116 (.tmp (22 : Nat)), none⟩,
  ⟨(some 24), .fieldAddr 46 (.tmp (3 : Nat)) 0, none⟩,
  ⟨(some 25), .load 44 (.tmp (24 : Nat)), none⟩,
  ⟨(some 26), .move (.tmp (5 : Nat)), none⟩,
  ⟨(some 27), .indexAddr 44 (.tmp (25 : Nat)) (.tmp (26 : Nat)), none⟩,
  ⟨(some 28), .load 116 (.tmp (27 : Nat)), none⟩,
  ⟨(some 29), .binOp .neq 116 (.tmp (23 : Nat)) (.tmp (28 : Nat)) 116, none⟩]
def R2_SameCurves_a6 : List (List Nat) := [[], [0], [], [1, 2], [3], [], [5], [], [6, 7], [8], [4, 9]]
def R2_SameCurves_r7 : List SO := [⟨(some 4), .assign (.const (.bool false)), none⟩]
def R2_SameCurves_r8 : List SO := [⟨(some 30), .binOp .add 3 (.tmp (16 : Nat)) (.const (.int .i64 1)) 3, none⟩,
  ⟨(some 16), .move (.tmp (30 : Nat)), none⟩]
def R2_SameCurves_r9 : List SO := [⟨(some 4), .assign (.const (.bool true)), none⟩]
def R2_SameCurves_c : SF := ⟨31, (.seq (.reg R2_SameCurves_r0)
  (.seq (.seq (.reg R2_SameCurves_r1)
  (.cond (.tmp (12 : Nat)) (.seq (.reg R2_SameCurves_r2)
  .ret) .skip))
  (.seq (.seq (.reg R2_SameCurves_r3)
  (.block 0 (.loop (.seq (.reg R2_SameCurves_r4)
  (.seq (.cond (.tmp (17 : Nat)) .skip (.exit 0))
  (.seq (.block 1 (.seq (.reg R2_SameCurves_r5)
  (.seq (.regd R2_SameCurves_r6 R2_SameCurves_a6)
  (.cond (.tmp (29 : Nat)) (.seq (.reg R2_SameCurves_r7)
  .ret) .skip))))
  (.reg R2_SameCurves_r8)))))))
  (.seq (.reg R2_SameCurves_r9)
  .ret)))), [.tmp 4]⟩
theorem R2_SameCurves_s : slimF Try.prog 77 = some R2_SameCurves_c := by kernel_rfl
def tbl_R2 : List (Nat × SF) := [(16, R2_Mod_c), (23, R2_Round_c), (24, R2_SameInts_c), (35, R2_SameProfiles_c), (45, R2_Floor_c), (55, R2_SameGrids_c), (63, R2_SameTexts_c), (77, R2_SameCurves_c)]
theorem tbl_R2_ok : okT Try.prog tbl_R2 := ⟨R2_Mod_s, R2_Round_s, R2_SameInts_s, R2_SameProfiles_s, R2_Floor_s, R2_SameGrids_s, R2_SameTexts_s, R2_SameCurves_s, trivial⟩

end Go.Proofs.Ytogbkhopanaoiaa
namespace Go.Proofs.Ytogbkhopanaoiaa
open Go Go.Lite
set_option linter.unusedVariables false

/-- printworks/inverse.Check -/
def inverse_Check_r0 : List SO := [⟨(some 3), .box 142 (.tmp (1 : Nat)), none⟩,
  ⟨(some 4), .assign (.const (.int .i64 0)), none⟩]
def inverse_Check_r1 : List SO := [⟨(some 10), .move (.tmp (0 : Nat)), none⟩,
  ⟨(some 11), .binOp .lss 3 (.tmp (10 : Nat)) (.const (.int .i64 1)) 3, none⟩,
  ⟨(some 12), .move (.tmp (11 : Nat)), none⟩,
  ⟨(some 13), .move (.tmp (0 : Nat)), (some (12, false))⟩,
  ⟨(some 14), .binOp .gtr 3 (.tmp (13 : Nat)) (.const (.int .i64 8)) 3, (some (12, false))⟩,
  ⟨(some 15), .pick (.tmp (12 : Nat)) (.const (.bool true)) (.tmp (14 : Nat)), none⟩]
def inverse_Check_r2 : List SO := [⟨(some 4), .assign (.const (.int .i64 1)), none⟩]
def inverse_Check_r3 : List SO := [⟨(some 16), .fieldAddr 142 (.tmp (3 : Nat)) 0, none⟩,
  ⟨(some 17), .load 43 (.tmp (16 : Nat)), none⟩,
  ⟨(some 18), .call ⟨(.value (.func (61 : Nat))), #[(.tmp (17 : Nat))], #[43]⟩, none⟩,
  ⟨(some 5), .assign (.tmp (18 : Nat)), none⟩]
def inverse_Check_r4 : List SO := [⟨(some 19), .move (.tmp (5 : Nat)), none⟩,
  ⟨(some 20), .binOp .neq 33 (.tmp (19 : Nat)) (.const (.int .i64 0)) 33, none⟩]
def inverse_Check_r5 : List SO := [⟨(some 21), .move (.tmp (5 : Nat)), none⟩,
  ⟨(some 4), .assign (.tmp (21 : Nat)), none⟩]
def inverse_Check_r6 : List SO := [⟨(some 6), .assign (.const (.int .i64 0)), none⟩]
def inverse_Check_r7 : List SO := [⟨(some 22), .fieldAddr 142 (.tmp (3 : Nat)) 1, none⟩,
  ⟨(some 23), .load 3 (.tmp (22 : Nat)), none⟩]
def inverse_Check_r8 : List SO := [⟨(some 25), .binOp .eql 3 (.tmp (23 : Nat)) (.const (.int .i64 5)) 3, none⟩,
  ⟨(some 24), .assign (.tmp (25 : Nat)), none⟩]
def inverse_Check_r9 : List SO := [⟨(some 26), .binOp .eql 3 (.tmp (23 : Nat)) (.const (.int .i64 15)) 3, none⟩,
  ⟨(some 24), .assign (.tmp (26 : Nat)), none⟩]
def inverse_Check_r10 : List SO := [⟨(some 27), .binOp .eql 3 (.tmp (23 : Nat)) (.const (.int .i64 17)) 3, none⟩,
  ⟨(some 24), .assign (.tmp (27 : Nat)), none⟩]
def inverse_Check_r11 : List SO := [⟨(some 28), .binOp .eql 3 (.tmp (23 : Nat)) (.const (.int .i64 51)) 3, none⟩,
  ⟨(some 24), .assign (.tmp (28 : Nat)), none⟩]
def inverse_Check_r12 : List SO := [⟨(some 29), .binOp .eql 3 (.tmp (23 : Nat)) (.const (.int .i64 85)) 3, none⟩,
  ⟨(some 24), .assign (.tmp (29 : Nat)), none⟩]
def inverse_Check_r13 : List SO := [⟨(some 30), .binOp .eql 3 (.tmp (23 : Nat)) (.const (.int .i64 255)) 3, none⟩,
  ⟨(some 24), .assign (.tmp (30 : Nat)), none⟩]
def inverse_Check_r14 : List SO := [⟨(some 31), .fieldAddr 142 (.tmp (3 : Nat)) 1, none⟩,
  ⟨(some 32), .load 3 (.tmp (31 : Nat)), none⟩,
  ⟨(some 33), .binOp .quo 3 (.const (.int .i64 255)) (.tmp (32 : Nat)) 3, none⟩,
  ⟨(some 34), .binOp .add 3 (.tmp (33 : Nat)) (.const (.int .i64 1)) 3, none⟩,
  ⟨(some 6), .assign (.tmp (34 : Nat)), none⟩]
def inverse_Check_r15 : List SO := [⟨(some 4), .assign (.const (.int .i64 3)), none⟩]
def inverse_Check_r16 : List SO := [⟨(some 35), .fieldAddr 142 (.tmp (3 : Nat)) 2, none⟩,
  ⟨(some 36), .load 3 (.tmp (35 : Nat)), none⟩,
  ⟨(some 37), .binOp .lss 3 (.tmp (36 : Nat)) (.const (.int .i64 0)) 3, none⟩,
  ⟨(some 38), .move (.tmp (37 : Nat)), none⟩,
  ⟨(some 39), .fieldAddr 142 (.tmp (3 : Nat)) 2, (some (38, false))⟩,
  ⟨(some 40), .load 3 (.tmp (39 : Nat)), (some (38, false))⟩,
  ⟨(some 41), .binOp .gtr 3 (.tmp (40 : Nat)) (.const (.int .i64 2040)) 3, (some (38, false))⟩,
  ⟨(some 42), .pick (.tmp (38 : Nat)) (.const (.bool true)) (.tmp (41 : Nat)), none⟩]
def inverse_Check_r17 : List SO := [⟨(some 4), .assign (.const (.int .i64 3)), none⟩]
def inverse_Check_r18 : List SO := [⟨(some 43), .fieldAddr 142 (.tmp (3 : Nat)) 3, none⟩,
  ⟨(some 44), .load 23 (.tmp (43 : Nat)), none⟩,
  ⟨(some 45), .move (.tmp (0 : Nat)), none⟩,
  ⟨(some 46), .call ⟨(.value (.func (48 : Nat))), #[(.tmp (44 : Nat)), (.tmp (45 : Nat))], #[23, 3]⟩, none⟩,
  ⟨(some 7), .assign (.tmp (46 : Nat)), none⟩]
def inverse_Check_r19 : List SO := [⟨(some 47), .move (.tmp (7 : Nat)), none⟩,
  ⟨(some 48), .binOp .neq 33 (.tmp (47 : Nat)) (.const (.int .i64 0)) 33, none⟩]
def inverse_Check_r20 : List SO := [⟨(some 49), .move (.tmp (7 : Nat)), none⟩,
  ⟨(some 4), .assign (.tmp (49 : Nat)), none⟩]
def inverse_Check_r21 : List SO := [⟨(some 50), .fieldAddr 142 (.tmp (3 : Nat)) 4, none⟩,
  ⟨(some 51), .load 23 (.tmp (50 : Nat)), none⟩,
  ⟨(some 52), .move (.tmp (0 : Nat)), none⟩,
  ⟨(some 53), .call ⟨(.value (.func (48 : Nat))), #[(.tmp (51 : Nat)), (.tmp (52 : Nat))], #[23, 3]⟩, none⟩,
  ⟨(some 8), .assign (.tmp (53 : Nat)), none⟩]
def inverse_Check_r22 : List SO := [⟨(some 54), .move (.tmp (8 : Nat)), none⟩,
  ⟨(some 55), .binOp .neq 33 (.tmp (54 : Nat)) (.const (.int .i64 0)) 33, none⟩]
def inverse_Check_r23 : List SO := [⟨(some 56), .move (.tmp (8 : Nat)), none⟩,
  ⟨(some 4), .assign (.tmp (56 : Nat)), none⟩]
def inverse_Check_r24 : List SO := [⟨(some 9), .assign (.const (.int .i64 1)), none⟩]
def inverse_Check_r25 : List SO := [⟨(some 57), .move (.tmp (0 : Nat)), none⟩,
  ⟨(some 58), .move (.const (.int .i64 0)), none⟩]
def inverse_Check_r26 : List SO := [⟨(some 59), .binOp .lss 3 (.tmp (58 : Nat)) (.tmp (57 : Nat)) 3, none⟩]
def inverse_Check_r27 : List SO := [⟨(some 60), .move (.tmp (9 : Nat)), none⟩,
  ⟨(some 61), .move (.tmp (6 : Nat)), none⟩,
  ⟨(some 62), .binOp .mul 3 (.tmp (60 : Nat)) (.tmp (61 : Nat)) 3, none⟩,
  ⟨(some 9), .assign (.tmp (62 : Nat)), none⟩]
def inverse_Check_r28 : List SO := [⟨(some 63), .binOp .add 3 (.tmp (58 : Nat)) (.const (.int .i64 1)) 3, none⟩,
  ⟨(some 58), .move (.tmp (63 : Nat)), none⟩]
def inverse_Check_r29 : List SO := [⟨(some 64), .move (.tmp (9 : Nat)), none⟩,
  ⟨(some 65), .binOp .gtr 3 (.tmp (64 : Nat)) (.const (.int .i64 20000)) 3, none⟩]
def inverse_Check_r30 : List SO := [⟨(some 4), .assign (.const (.int .i64 2)), none⟩]
def inverse_Check_r31 : List SO := [⟨(some 4), .assign (.const (.int .i64 0)), none⟩]
def inverse_Check_c : SF := ⟨66, (.seq (.reg inverse_Check_r0)
  (.seq (.seq (.reg inverse_Check_r1)
  (.cond (.tmp (15 : Nat)) (.seq (.reg inverse_Check_r2)
  .ret) .skip))
  (.seq (.seq (.reg inverse_Check_r3)
  (.seq (.reg inverse_Check_r4)
  (.cond (.tmp (20 : Nat)) (.seq (.reg inverse_Check_r5)
  .ret) .skip)))
  (.seq (.reg inverse_Check_r6)
  (.seq (.seq (.reg inverse_Check_r7)
  (.block 0 (.seq (.seq (.reg inverse_Check_r8)
  (.cond (.tmp (24 : Nat)) .skip (.seq (.reg inverse_Check_r9)
  (.cond (.tmp (24 : Nat)) .skip (.seq (.reg inverse_Check_r10)
  (.cond (.tmp (24 : Nat)) .skip (.seq (.reg inverse_Check_r11)
  (.cond (.tmp (24 : Nat)) .skip (.seq (.reg inverse_Check_r12)
  (.cond (.tmp (24 : Nat)) .skip (.reg inverse_Check_r13)))))))))))
  (.cond (.tmp (24 : Nat)) (.reg inverse_Check_r14) (.seq (.reg inverse_Check_r15)
  .ret)))))
  (.seq (.seq (.reg inverse_Check_r16)
  (.cond (.tmp (42 : Nat)) (.seq (.reg inverse_Check_r17)
  .ret) .skip))
  (.seq (.seq (.reg inverse_Check_r18)
  (.seq (.reg inverse_Check_r19)
  (.cond (.tmp (48 : Nat)) (.seq (.reg inverse_Check_r20)
  .ret) .skip)))
  (.seq (.seq (.reg inverse_Check_r21)
  (.seq (.reg inverse_Check_r22)
  (.cond (.tmp (55 : Nat)) (.seq (.reg inverse_Check_r23)
  .ret) .skip)))
  (.seq (.reg inverse_Check_r24)
  (.seq (.seq (.reg inverse_Check_r25)
  (.block 1 (.loop (.seq (.reg inverse_Check_r26)
  (.seq (.cond (.tmp (59 : Nat)) .skip (.exit 1))
  (.seq (.block 2 (.reg inverse_Check_r27))
  (.reg inverse_Check_r28)))))))
  (.seq (.seq (.reg inverse_Check_r29)
  (.cond (.tmp (65 : Nat)) (.seq (.reg inverse_Check_r30)
  .ret) .skip))
  (.seq (.reg inverse_Check_r31)
  .ret)))))))))))), [.tmp 4]⟩
theorem inverse_Check_s : slimF Try.prog 92 = some inverse_Check_c := by kernel_rfl
/-- printworks/inverse.Quick -/
def inverse_Quick_r0 : List SO := [⟨(some 4), .assign (.const (.slice none 0 0)), none⟩,
  ⟨(some 5), .assign (.const (.int .i64 0)), none⟩,
  ⟨(some 6), .assign (.const (.int .i64 0)), none⟩]
def inverse_Quick_r1 : List SO := [⟨(some 10), .move (.tmp (0 : Nat)), none⟩,
  ⟨(some 11), .nilCheck (.tmp (10 : Nat)), none⟩,
  ⟨(some 12), .fieldAddr 62 (.tmp (11 : Nat)) 1, none⟩,
  ⟨(some 13), .load 22 (.tmp (12 : Nat)), none⟩,
  ⟨(some 14), .call ⟨(.builtin .len), #[(.tmp (13 : Nat))], #[22]⟩, none⟩,
  ⟨(some 7), .assign (.tmp (14 : Nat)), none⟩]
def inverse_Quick_r2 : List SO := [⟨(some 15), .move (.tmp (0 : Nat)), none⟩,
  ⟨(some 16), .move (.tmp (1 : Nat)), none⟩,
  ⟨(some 17), .move (.tmp (7 : Nat)), none⟩,
  ⟨(some 18), .makeSlice 23 (.tmp (17 : Nat)) (.tmp (17 : Nat)), none⟩,
  ⟨(some 19), .move (.tmp (7 : Nat)), none⟩,
  ⟨(some 20), .makeSlice 23 (.tmp (19 : Nat)) (.tmp (19 : Nat)), none⟩,
  ⟨(some 21), .move (.tmp (7 : Nat)), none⟩,
  ⟨(some 22), .makeSlice 23 (.tmp (21 : Nat)) (.tmp (21 : Nat)), none⟩,
  ⟨(some 23), .move (.tmp (7 : Nat)), none⟩,
  ⟨(some 24), .makeSlice 23 (.tmp (23 : Nat)) (.tmp (23 : Nat)), none⟩,
  ⟨(some 25), .build 171 #[(0, (.tmp (15 : Nat))), (1, (.tmp (16 : Nat))), (4, (.tmp (18 : Nat))), (5, (.tmp (20 : Nat))), (6, (.tmp (22 : Nat))), (7, (.tmp (24 : Nat)))], none⟩,
  ⟨(some 26), .box 171 (.tmp (25 : Nat)), none⟩,
  ⟨(some 8), .assign (.tmp (26 : Nat)), none⟩]
def inverse_Quick_a2 : List (List Nat) := [[], [], [], [2, 2], [], [4, 4], [], [6, 6], [], [8, 8], [0, 1, 3, 5, 7, 9], [10], [11, 0, 1, 2, 3, 4, 5, 6, 7, 8, 9, 10, 11]]
def inverse_Quick_r3 : List SO := [⟨(some 27), .move (.tmp (7 : Nat)), none⟩,
  ⟨(some 28), .move (.const (.int .i64 0)), none⟩]
def inverse_Quick_r4 : List SO := [⟨(some 29), .binOp .lss 3 (.tmp (28 : Nat)) (.tmp (27 : Nat)) 3, none⟩]
def inverse_Quick_r5 : List SO := [⟨(some 30), .move (.tmp (28 : Nat)), none⟩,
  ⟨(some 9), .assign (.tmp (30 : Nat)), none⟩]
def inverse_Quick_r6 : List SO := [⟨(some 31), .move (.tmp (8 : Nat)), none⟩,
  ⟨(some 32), .nilCheck (.tmp (31 : Nat)), none⟩,
  ⟨(some 33), .fieldAddr 171 (.tmp (32 : Nat)) 6, none⟩,
  ⟨(some 34), .load 23 (.tmp (33 : Nat)), none⟩,
  ⟨(some 35), .move (.tmp (9 : Nat)), none⟩,
  ⟨(some 36), .move (.tmp (8 : Nat)), none⟩,
  ⟨(some 37), .nilCheck (.tmp (36 : Nat)), none⟩,
  ⟨(some 38), .fieldAddr 171 (.tmp (37 : Nat)) 7, none⟩,
  ⟨(some 39), .load 23 (.tmp (38 : Nat)), none⟩,
  ⟨(some 40), .move (.tmp (9 : Nat)), none⟩,
  ⟨(some 41), .move (.tmp (1 : Nat)), none⟩,
  ⟨(some 42), .nilCheck (.tmp (41 : Nat)), none⟩,
  ⟨(some 43), .fieldAddr 142 (.tmp (42 : Nat)) 3, none⟩,
  ⟨(some 44), .load 23 (.tmp (43 : Nat)), none⟩,
  ⟨(some 45), .move (.tmp (9 : Nat)), none⟩,
  ⟨(some 46), .indexAddr 23 (.tmp (44 : Nat)) (.tmp (45 : Nat)), none⟩,
  ⟨(some 47), .load 3 (.tmp (46 : Nat)), none⟩,
  ⟨(some 48), .move (.tmp (1 : Nat)), none⟩,
  ⟨(some 49), .nilCheck (.tmp (48 : Nat)), none⟩,
  ⟨(some 50), .fieldAddr 142 (.tmp (49 : Nat)) 1, none⟩,
  ⟨(some 51), .load 3 (.tmp (50 : Nat)), none⟩,
  ⟨(some 52), .binOp .add 3 (.tmp (47 : Nat)) (.tmp (51 : Nat)) 3, none⟩,
  ⟨(some 53), .binOp .sub 3 (.tmp (52 : Nat)) (.const (.int .i64 1)) 3, none⟩,
  ⟨(some 54), .move (.tmp (1 : Nat)), none⟩,
  ⟨(some 55), .nilCheck (.tmp (54 : Nat)), none⟩,
  ⟨(some 56), .fieldAddr 142 (.tmp (55 : Nat)) 1, none⟩,
  ⟨(some 57), .load 3 (.tmp (56 : Nat)), none⟩,
  ⟨(some 58), .binOp .quo 3 (.tmp (53 : Nat)) (.tmp (57 : Nat)) 3, none⟩,
  ⟨(some 59), .move (.tmp (1 : Nat)), none⟩,
  ⟨(some 60), .nilCheck (.tmp (59 : Nat)), none⟩,
  ⟨(some 61), .fieldAddr 142 (.tmp (60 : Nat)) 4, none⟩,
  ⟨(some 62), .load 23 (.tmp (61 : Nat)), none⟩,
  ⟨(some 63), .move (.tmp (9 : Nat)), none⟩,
  ⟨(some 64), .indexAddr 23 (.tmp (62 : Nat)) (.tmp (63 : Nat)), none⟩,
  ⟨(some 65), .load 3 (.tmp (64 : Nat)), none⟩,
  ⟨(some 66), .move (.tmp (1 : Nat)), none⟩,
  ⟨(some 67), .nilCheck (.tmp (66 : Nat)), none⟩,
  ⟨(some 68), .fieldAddr 142 (.tmp (67 : Nat)) 1, none⟩,
  ⟨(some 69), .load 3 (.tmp (68 : Nat)), none⟩,
  ⟨(some 70), .binOp .quo 3 (.tmp (65 : Nat)) (.tmp (69 : Nat)) 3, none⟩,
  ⟨(some 71), .indexAddr 23 (.tmp (34 : Nat)) (.tmp (35 : Nat)), none⟩,
  ⟨none, .store 3 (.tmp (71 : Nat)) (.tmp (58 : Nat)), none⟩,
  ⟨(some 72), .indexAddr 23 (.tmp (39 : Nat)) (.tmp (40 : Nat)), none⟩,
  ⟨none, .store 3 (.tmp (72 : Nat)) (.tmp (70 : Nat)), none⟩]
def inverse_Quick_a6 : List (List Nat) := [[], [0], [1], [2], [], [], [5], [6], [7], [], [], [10], [11], [12], [], [13, 14], [15], [], [17], [18], [19], [16, 20], [21], [], [23], [24], [25], [22, 26], [], [28], [29], [30], [], [31, 32], [33], [], [35], [36], [37], [34, 38], [3, 4, 0, 1, 2, 3, 4, 8, 10, 11, 12, 13, 14, 15, 16, 17, 18, 19, 20, 21, 22, 23, 24, 25, 26, 27, 31, 34, 38], [40, 27, 0, 1, 2, 3, 4, 8, 10, 11, 12, 13, 14, 15, 16, 17, 18, 19, 20, 21, 22, 23, 24, 25, 26, 27, 31, 34, 38], [8, 9, 0, 1, 2, 3, 4, 5, 6, 7, 8, 9, 10, 11, 12, 13, 14, 15, 16, 17, 18, 19, 20, 21, 22, 23, 24, 25, 26, 27, 28, 29, 30, 31, 32, 33, 34, 35, 36, 37, 38, 39, 40, 41], [42, 39, 41, 0, 1, 2, 3, 4, 5, 6, 7, 8, 9, 10, 11, 12, 13, 14, 15, 16, 17, 18, 19, 20, 21, 22, 23, 24, 25, 26, 27, 28, 29, 30, 31, 32, 33, 34, 35, 36, 37, 38, 39, 40, 41]]
def inverse_Quick_r7 : List SO := [⟨(some 73), .move (.tmp (8 : Nat)), none⟩,
  ⟨(some 74), .nilCheck (.tmp (73 : Nat)), none⟩,
  ⟨(some 75), .fieldAddr 171 (.tmp (74 : Nat)) 6, none⟩,
  ⟨(some 76), .load 23 (.tmp (75 : Nat)), none⟩,
  ⟨(some 77), .move (.tmp (9 : Nat)), none⟩,
  ⟨(some 78), .indexAddr 23 (.tmp (76 : Nat)) (.tmp (77 : Nat)), none⟩,
  ⟨(some 79), .load 3 (.tmp (78 : Nat)), none⟩,
  ⟨(some 80), .move (.tmp (8 : Nat)), none⟩,
  ⟨(some 81), .nilCheck (.tmp (80 : Nat)), none⟩,
  ⟨(some 82), .fieldAddr 171 (.tmp (81 : Nat)) 7, none⟩,
  ⟨(some 83), .load 23 (.tmp (82 : Nat)), none⟩,
  ⟨(some 84), .move (.tmp (9 : Nat)), none⟩,
  ⟨(some 85), .indexAddr 23 (.tmp (83 : Nat)) (.tmp (84 : Nat)), none⟩,
  ⟨(some 86), .load 3 (.tmp (85 : Nat)), none⟩,
  ⟨(some 87), .binOp .gtr 3 (.tmp (79 : Nat)) (.tmp (86 : Nat)) 3, none⟩]
def inverse_Quick_a7 : List (List Nat) := [[], [0], [1], [2], [], [3, 4], [5], [], [7], [8], [9], [], [10, 11], [12], [6, 13]]
def inverse_Quick_r8 : List SO := [⟨(some 4), .assign (.const (.slice none 0 0)), none⟩,
  ⟨(some 5), .assign (.const (.int .i64 0)), none⟩,
  ⟨(some 6), .assign (.const (.int .i64 8)), none⟩]
def inverse_Quick_r9 : List SO := [⟨(some 88), .binOp .add 3 (.tmp (28 : Nat)) (.const (.int .i64 1)) 3, none⟩,
  ⟨(some 28), .move (.tmp (88 : Nat)), none⟩]
def inverse_Quick_r10 : List SO := [⟨(some 89), .move (.tmp (8 : Nat)), none⟩,
  ⟨(some 90), .call ⟨(.value (.func (100 : Nat))), #[(.tmp (89 : Nat))], #[169]⟩, none⟩]
def inverse_Quick_r11 : List SO := [⟨(some 91), .move (.tmp (8 : Nat)), none⟩,
  ⟨(some 92), .nilCheck (.tmp (91 : Nat)), none⟩,
  ⟨(some 93), .fieldAddr 171 (.tmp (92 : Nat)) 2, none⟩,
  ⟨(some 94), .load 23 (.tmp (93 : Nat)), none⟩,
  ⟨(some 95), .binOp .eql 23 (.tmp (94 : Nat)) (.const (.slice none 0 0)) 23, none⟩]
def inverse_Quick_r12 : List SO := [⟨(some 4), .assign (.const (.slice none 0 0)), none⟩,
  ⟨(some 5), .assign (.const (.int .i64 0)), none⟩,
  ⟨(some 6), .assign (.const (.int .i64 8)), none⟩]
def inverse_Quick_r13 : List SO := [⟨(some 96), .move (.tmp (8 : Nat)), none⟩,
  ⟨(some 97), .nilCheck (.tmp (96 : Nat)), none⟩,
  ⟨(some 98), .fieldAddr 171 (.tmp (97 : Nat)) 2, none⟩,
  ⟨(some 99), .load 23 (.tmp (98 : Nat)), none⟩,
  ⟨(some 100), .move (.tmp (8 : Nat)), none⟩,
  ⟨(some 101), .nilCheck (.tmp (100 : Nat)), none⟩,
  ⟨(some 102), .fieldAddr 171 (.tmp (101 : Nat)) 3, none⟩,
  ⟨(some 103), .load 3 (.tmp (102 : Nat)), none⟩,
  ⟨(some 4), .assign (.tmp (99 : Nat)), none⟩,
  ⟨(some 5), .assign (.tmp (103 : Nat)), none⟩,
  ⟨(some 6), .assign (.const (.int .i64 0)), none⟩]
def inverse_Quick_a13 : List (List Nat) := [[], [0], [1], [2], [], [4], [5], [6], [3, 0, 1, 2, 3], [7, 8, 0, 1, 2, 3, 4, 5, 6, 7, 8], [9, 0, 1, 2, 3, 4, 5, 6, 7, 8, 9]]
def inverse_Quick_c : SF := ⟨104, (.seq (.reg inverse_Quick_r0)
  (.seq (.reg inverse_Quick_r1)
  (.seq (.regd inverse_Quick_r2 inverse_Quick_a2)
  (.seq (.seq (.reg inverse_Quick_r3)
  (.block 0 (.loop (.seq (.reg inverse_Quick_r4)
  (.seq (.cond (.tmp (29 : Nat)) .skip (.exit 0))
  (.seq (.block 1 (.seq (.reg inverse_Quick_r5)
  (.seq (.regd inverse_Quick_r6 inverse_Quick_a6)
  (.seq (.regd inverse_Quick_r7 inverse_Quick_a7)
  (.cond (.tmp (87 : Nat)) (.seq (.reg inverse_Quick_r8)
  .ret) .skip)))))
  (.reg inverse_Quick_r9)))))))
  (.seq (.seq (.reg inverse_Quick_r10)
  (.seq (.reg inverse_Quick_r11)
  (.cond (.tmp (95 : Nat)) (.seq (.reg inverse_Quick_r12)
  .ret) .skip)))
  (.seq (.regd inverse_Quick_r13 inverse_Quick_a13)
  .ret)))))), [.tmp 4, .tmp 5, .tmp 6]⟩
theorem inverse_Quick_s : slimF Try.prog 85 = some inverse_Quick_c := by kernel_rfl
/-- (*printworks/inverse.search).run -/
def __inverse_search__run_r0 : List SO := [⟨(some 2), .assign (.const (.int .i64 0)), none⟩,
  ⟨(some 3), .assign (.const (.int .i64 0)), none⟩,
  ⟨(some 4), .assign (.const (.int .i64 0)), none⟩]
def __inverse_search__run_r1 : List SO := [⟨(some 14), .move (.tmp (0 : Nat)), none⟩,
  ⟨(some 15), .nilCheck (.tmp (14 : Nat)), none⟩,
  ⟨(some 16), .fieldAddr 171 (.tmp (15 : Nat)) 6, none⟩,
  ⟨(some 17), .load 23 (.tmp (16 : Nat)), none⟩,
  ⟨(some 18), .call ⟨(.builtin .len), #[(.tmp (17 : Nat))], #[23]⟩, none⟩,
  ⟨(some 19), .move (.const (.int .i64 0)), none⟩]
def __inverse_search__run_r2 : List SO := [⟨(some 20), .binOp .lss 3 (.tmp (19 : Nat)) (.tmp (18 : Nat)) 3, none⟩]
def __inverse_search__run_r3 : List SO := [⟨(some 21), .move (.tmp (19 : Nat)), none⟩,
  ⟨(some 5), .assign (.tmp (21 : Nat)), none⟩]
def __inverse_search__run_r4 : List SO := [⟨(some 22), .move (.tmp (2 : Nat)), none⟩,
  ⟨(some 23), .move (.tmp (0 : Nat)), none⟩,
  ⟨(some 24), .nilCheck (.tmp (23 : Nat)), none⟩,
  ⟨(some 25), .fieldAddr 171 (.tmp (24 : Nat)) 6, none⟩,
  ⟨(some 26), .load 23 (.tmp (25 : Nat)), none⟩,
  ⟨(some 27), .move (.tmp (5 : Nat)), none⟩,
  ⟨(some 28), .indexAddr 23 (.tmp (26 : Nat)) (.tmp (27 : Nat)), none⟩,
  ⟨(some 29), .load 3 (.tmp (28 : Nat)), none⟩,
  ⟨(some 30), .move (.tmp (0 : Nat)), none⟩,
  ⟨(some 31), .nilCheck (.tmp (30 : Nat)), none⟩,
  ⟨(some 32), .fieldAddr 171 (.tmp (31 : Nat)) 1, none⟩,
  ⟨(some 33), .load 146 (.tmp (32 : Nat)), none⟩,
  ⟨(some 34), .nilCheck (.tmp (33 : Nat)), none⟩,
  ⟨(some 35), .fieldAddr 142 (.tmp (34 : Nat)) 1, none⟩,
  ⟨(some 36), .load 3 (.tmp (35 : Nat)), none⟩,
  ⟨(some 37), .binOp .mul 3 (.tmp (29 : Nat)) (.tmp (36 : Nat)) 3, none⟩,
  ⟨(some 38), .binOp .add 3 (.tmp (22 : Nat)) (.tmp (37 : Nat)) 3, none⟩,
  ⟨(some 2), .assign (.tmp (38 : Nat)), none⟩]
def __inverse_search__run_a4 : List (List Nat) := [[], [], [1], [2], [3], [], [4, 5], [6], [], [8], [9], [10], [11], [12], [13], [7, 14], [0, 15], [16, 0, 1, 2, 3, 4, 5, 6, 7, 8, 9, 10, 11, 12, 13, 14, 15, 16]]
def __inverse_search__run_r5 : List SO := [⟨(some 39), .move (.tmp (0 : Nat)), none⟩,
  ⟨(some 40), .nilCheck (.tmp (39 : Nat)), none⟩,
  ⟨(some 41), .fieldAddr 171 (.tmp (40 : Nat)) 7, none⟩,
  ⟨(some 42), .load 23 (.tmp (41 : Nat)), none⟩,
  ⟨(some 43), .move (.tmp (5 : Nat)), none⟩,
  ⟨(some 44), .indexAddr 23 (.tmp (42 : Nat)) (.tmp (43 : Nat)), none⟩,
  ⟨(some 45), .load 3 (.tmp (44 : Nat)), none⟩,
  ⟨(some 46), .move (.tmp (0 : Nat)), none⟩,
  ⟨(some 47), .nilCheck (.tmp (46 : Nat)), none⟩,
  ⟨(some 48), .fieldAddr 171 (.tmp (47 : Nat)) 6, none⟩,
  ⟨(some 49), .load 23 (.tmp (48 : Nat)), none⟩,
  ⟨(some 50), .move (.tmp (5 : Nat)), none⟩,
  ⟨(some 51), .indexAddr 23 (.tmp (49 : Nat)) (.tmp (50 : Nat)), none⟩,
  ⟨(some 52), .load 3 (.tmp (51 : Nat)), none⟩,
  ⟨(some 53), .binOp .sub 3 (.tmp (45 : Nat)) (.tmp (52 : Nat)) 3, none⟩,
  ⟨(some 6), .assign (.tmp (53 : Nat)), none⟩]
def __inverse_search__run_a5 : List (List Nat) := [[], [0], [1], [2], [], [3, 4], [5], [], [7], [8], [9], [], [10, 11], [12], [6, 13], [14, 0, 1, 2, 3, 4, 5, 6, 7, 8, 9, 10, 11, 12, 13, 14]]
def __inverse_search__run_r6 : List SO := [⟨(some 54), .move (.tmp (6 : Nat)), none⟩,
  ⟨(some 55), .move (.tmp (3 : Nat)), none⟩,
  ⟨(some 56), .binOp .gtr 3 (.tmp (54 : Nat)) (.tmp (55 : Nat)) 3, none⟩]
def __inverse_search__run_r7 : List SO := [⟨(some 57), .move (.tmp (6 : Nat)), none⟩,
  ⟨(some 58), .move (.tmp (5 : Nat)), none⟩,
  ⟨(some 3), .assign (.tmp (57 : Nat)), none⟩,
  ⟨(some 4), .assign (.tmp (58 : Nat)), none⟩]
def __inverse_search__run_r8 : List SO := [⟨(some 59), .binOp .add 3 (.tmp (19 : Nat)) (.const (.int .i64 1)) 3, none⟩,
  ⟨(some 19), .move (.tmp (59 : Nat)), none⟩]
def __inverse_search__run_r9 : List SO := [⟨(some 60), .move (.tmp (2 : Nat)), none⟩,
  ⟨(some 61), .move (.tmp (0 : Nat)), none⟩,
  ⟨(some 62), .nilCheck (.tmp (61 : Nat)), none⟩,
  ⟨(some 63), .fieldAddr 171 (.tmp (62 : Nat)) 1, none⟩,
  ⟨(some 64), .load 146 (.tmp (63 : Nat)), none⟩,
  ⟨(some 65), .nilCheck (.tmp (64 : Nat)), none⟩,
  ⟨(some 66), .fieldAddr 142 (.tmp (65 : Nat)) 2, none⟩,
  ⟨(some 67), .load 3 (.tmp (66 : Nat)), none⟩,
  ⟨(some 68), .binOp .gtr 3 (.tmp (60 : Nat)) (.tmp (67 : Nat)) 3, none⟩]
def __inverse_search__run_r10 : List SO := [⟨(some 69), .move (.tmp (0 : Nat)), none⟩,
  ⟨(some 70), .nilCheck (.tmp (69 : Nat)), none⟩,
  ⟨(some 71), .fieldAddr 171 (.tmp (70 : Nat)) 2, none⟩,
  ⟨(some 72), .load 23 (.tmp (71 : Nat)), none⟩,
  ⟨(some 73), .binOp .neq 23 (.tmp (72 : Nat)) (.const (.slice none 0 0)) 23, none⟩]
def __inverse_search__run_r11 : List SO := [⟨(some 74), .move (.tmp (0 : Nat)), none⟩,
  ⟨(some 75), .call ⟨(.value (.func (107 : Nat))), #[(.tmp (74 : Nat))], #[169]⟩, none⟩,
  ⟨(some 7), .assign (.tmp (75 : Nat)), none⟩]
def __inverse_search__run_r12 : List SO := [⟨(some 76), .move (.tmp (7 : Nat)), none⟩,
  ⟨(some 77), .move (.tmp (0 : Nat)), none⟩,
  ⟨(some 78), .nilCheck (.tmp (77 : Nat)), none⟩,
  ⟨(some 79), .fieldAddr 171 (.tmp (78 : Nat)) 3, none⟩,
  ⟨(some 80), .load 3 (.tmp (79 : Nat)), none⟩,
  ⟨(some 81), .binOp .gtr 3 (.tmp (76 : Nat)) (.tmp (80 : Nat)) 3, none⟩,
  ⟨(some 82), .move (.tmp (81 : Nat)), none⟩,
  ⟨(some 83), .move (.tmp (7 : Nat)), (some (82, false))⟩,
  ⟨(some 84), .move (.tmp (0 : Nat)), (some (82, false))⟩,
  ⟨(some 85), .nilCheck (.tmp (84 : Nat)), (some (82, false))⟩,
  ⟨(some 86), .fieldAddr 171 (.tmp (85 : Nat)) 3, (some (82, false))⟩,
  ⟨(some 87), .load 3 (.tmp (86 : Nat)), (some (82, false))⟩,
  ⟨(some 88), .binOp .eql 3 (.tmp (83 : Nat)) (.tmp (87 : Nat)) 3, (some (82, false))⟩,
  ⟨(some 89), .move (.tmp (88 : Nat)), (some (82, false))⟩,
  ⟨(some 90), .move (.tmp (0 : Nat)), (some (89, true))⟩,
  ⟨(some 91), .call ⟨(.value (.func (108 : Nat))), #[(.tmp (90 : Nat))], #[169]⟩, (some (89, true))⟩,
  ⟨(some 92), .unOp .not 4 (.tmp (91 : Nat)), (some (89, true))⟩,
  ⟨(some 93), .pick (.tmp (89 : Nat)) (.tmp (92 : Nat)) (.const (.bool false)), (some (82, false))⟩,
  ⟨(some 94), .pick (.tmp (82 : Nat)) (.const (.bool true)) (.tmp (93 : Nat)), none⟩]
def __inverse_search__run_r13 : List SO := [⟨(some 95), .move (.tmp (3 : Nat)), none⟩,
  ⟨(some 96), .binOp .eql 3 (.tmp (95 : Nat)) (.const (.int .i64 0)) 3, none⟩]
def __inverse_search__run_r14 : List SO := [⟨(some 97), .move (.tmp (0 : Nat)), none⟩,
  ⟨(some 98), .nilCheck (.tmp (97 : Nat)), none⟩,
  ⟨(some 99), .fieldAddr 171 (.tmp (98 : Nat)) 6, none⟩,
  ⟨(some 100), .load 23 (.tmp (99 : Nat)), none⟩,
  ⟨(some 101), .call ⟨(.builtin .len), #[(.tmp (100 : Nat))], #[23]⟩, none⟩,
  ⟨(some 102), .makeSlice 23 (.tmp (101 : Nat)) (.tmp (101 : Nat)), none⟩,
  ⟨(some 8), .assign (.tmp (102 : Nat)), none⟩]
def __inverse_search__run_r15 : List SO := [⟨(some 103), .move (.tmp (0 : Nat)), none⟩,
  ⟨(some 104), .nilCheck (.tmp (103 : Nat)), none⟩,
  ⟨(some 105), .fieldAddr 171 (.tmp (104 : Nat)) 6, none⟩,
  ⟨(some 106), .load 23 (.tmp (105 : Nat)), none⟩,
  ⟨(some 107), .call ⟨(.builtin .len), #[(.tmp (106 : Nat))], #[23]⟩, none⟩,
  ⟨(some 108), .move (.const (.int .i64 0)), none⟩]
def __inverse_search__run_r16 : List SO := [⟨(some 109), .binOp .lss 3 (.tmp (108 : Nat)) (.tmp (107 : Nat)) 3, none⟩]
def __inverse_search__run_r17 : List SO := [⟨(some 110), .move (.tmp (108 : Nat)), none⟩,
  ⟨(some 111), .indexAddr 23 (.tmp (106 : Nat)) (.tmp (108 : Nat)), none⟩,
  ⟨(some 112), .load 3 (.tmp (111 : Nat)), none⟩,
  ⟨(some 9), .assign (.tmp (110 : Nat)), none⟩,
  ⟨(some 10), .assign (.tmp (112 : Nat)), none⟩]
def __inverse_search__run_r18 : List SO := [⟨(some 113), .move (.tmp (8 : Nat)), none⟩,
  ⟨(some 114), .move (.tmp (9 : Nat)), none⟩,
  ⟨(some 115), .move (.tmp (10 : Nat)), none⟩,
  ⟨(some 116), .move (.tmp (0 : Nat)), none⟩,
  ⟨(some 117), .nilCheck (.tmp (116 : Nat)), none⟩,
  ⟨(some 118), .fieldAddr 171 (.tmp (117 : Nat)) 1, none⟩,
  ⟨(some 119), .load 146 (.tmp (118 : Nat)), none⟩,
  ⟨(some 120), .nilCheck (.tmp (119 : Nat)), none⟩,
  ⟨(some 121), .fieldAddr 142 (.tmp (120 : Nat)) 1, none⟩,
  ⟨(some 122), .load 3 (.tmp (121 : Nat)), none⟩,
  ⟨(some 123), .binOp .mul 3 (.tmp (115 : Nat)) (.tmp (122 : Nat)) 3, none⟩,
  ⟨(some 124), .indexAddr 23 (.tmp (113 : Nat)) (.tmp (114 : Nat)), none⟩,
  ⟨none, .store 3 (.tmp (124 : Nat)) (.tmp (123 : Nat)), none⟩]
def __inverse_search__run_r19 : List SO := [⟨(some 125), .binOp .add 3 (.tmp (108 : Nat)) (.const (.int .i64 1)) 3, none⟩,
  ⟨(some 108), .move (.tmp (125 : Nat)), none⟩]
def __inverse_search__run_r20 : List SO := [⟨(some 126), .move (.tmp (0 : Nat)), none⟩,
  ⟨(some 127), .nilCheck (.tmp (126 : Nat)), none⟩,
  ⟨(some 128), .fieldAddr 171 (.tmp (127 : Nat)) 0, none⟩,
  ⟨(some 129), .load 105 (.tmp (128 : Nat)), none⟩,
  ⟨(some 130), .move (.tmp (8 : Nat)), none⟩,
  ⟨(some 131), .call ⟨(.value (.func (60 : Nat))), #[(.tmp (129 : Nat)), (.tmp (130 : Nat))], #[105, 23]⟩, none⟩,
  ⟨(some 132), .move (.tmp (0 : Nat)), none⟩,
  ⟨(some 133), .nilCheck (.tmp (132 : Nat)), none⟩,
  ⟨(some 134), .fieldAddr 171 (.tmp (133 : Nat)) 1, none⟩,
  ⟨(some 135), .load 146 (.tmp (134 : Nat)), none⟩,
  ⟨(some 136), .nilCheck (.tmp (135 : Nat)), none⟩,
  ⟨(some 137), .fieldAddr 142 (.tmp (136 : Nat)) 0, none⟩,
  ⟨(some 138), .load 43 (.tmp (137 : Nat)), none⟩,
  ⟨(some 139), .call ⟨(.value (.func (59 : Nat))), #[(.tmp (131 : Nat)), (.tmp (138 : Nat))], #[43, 43]⟩, none⟩,
  ⟨(some 11), .assign (.tmp (139 : Nat)), none⟩]
def __inverse_search__run_a20 : List (List Nat) := [[], [0], [1], [2], [], [3, 4], [], [6], [7], [8], [9], [10], [11], [5, 12, 5], [13, 13, 0, 1, 2, 3, 4, 5, 6, 7, 8, 9, 10, 11, 12, 13]]
def __inverse_search__run_r21 : List SO := [⟨(some 140), .move (.tmp (0 : Nat)), none⟩,
  ⟨(some 141), .nilCheck (.tmp (140 : Nat)), none⟩,
  ⟨(some 142), .fieldAddr 171 (.tmp (141 : Nat)) 2, none⟩,
  ⟨(some 143), .load 23 (.tmp (142 : Nat)), none⟩,
  ⟨(some 144), .binOp .eql 23 (.tmp (143 : Nat)) (.const (.slice none 0 0)) 23, none⟩,
  ⟨(some 145), .move (.tmp (144 : Nat)), none⟩,
  ⟨(some 146), .move (.tmp (11 : Nat)), (some (145, false))⟩,
  ⟨(some 147), .move (.tmp (0 : Nat)), (some (145, false))⟩,
  ⟨(some 148), .nilCheck (.tmp (147 : Nat)), (some (145, false))⟩,
  ⟨(some 149), .fieldAddr 171 (.tmp (148 : Nat)) 3, (some (145, false))⟩,
  ⟨(some 150), .load 3 (.tmp (149 : Nat)), (some (145, false))⟩,
  ⟨(some 151), .binOp .lss 3 (.tmp (146 : Nat)) (.tmp (150 : Nat)) 3, (some (145, false))⟩,
  ⟨(some 152), .pick (.tmp (145 : Nat)) (.const (.bool true)) (.tmp (151 : Nat)), none⟩,
  ⟨(some 153), .move (.tmp (152 : Nat)), none⟩,
  ⟨(some 154), .move (.tmp (11 : Nat)), (some (153, false))⟩,
  ⟨(some 155), .move (.tmp (0 : Nat)), (some (153, false))⟩,
  ⟨(some 156), .nilCheck (.tmp (155 : Nat)), (some (153, false))⟩,
  ⟨(some 157), .fieldAddr 171 (.tmp (156 : Nat)) 3, (some (153, false))⟩,
  ⟨(some 158), .load 3 (.tmp (157 : Nat)), (some (153, false))⟩,
  ⟨(some 159), .binOp .eql 3 (.tmp (154 : Nat)) (.tmp (158 : Nat)) 3, (some (153, false))⟩,
  ⟨(some 160), .move (.tmp (159 : Nat)), (some (153, false))⟩,
  ⟨(some 161), .move (.tmp (0 : Nat)), (some (160, true))⟩,
  ⟨(some 162), .call ⟨(.value (.func (108 : Nat))), #[(.tmp (161 : Nat))], #[169]⟩, (some (160, true))⟩,
  ⟨(some 163), .pick (.tmp (160 : Nat)) (.tmp (162 : Nat)) (.const (.bool false)), (some (153, false))⟩,
  ⟨(some 164), .pick (.tmp (153 : Nat)) (.const (.bool true)) (.tmp (163 : Nat)), none⟩]
def __inverse_search__run_r22 : List SO := [⟨(some 165), .move (.tmp (0 : Nat)), none⟩,
  ⟨(some 166), .move (.tmp (0 : Nat)), none⟩,
  ⟨(some 167), .move (.tmp (8 : Nat)), none⟩,
  ⟨(some 168), .move (.tmp (11 : Nat)), none⟩,
  ⟨(some 169), .nilCheck (.tmp (165 : Nat)), none⟩,
  ⟨(some 170), .fieldAddr 171 (.tmp (169 : Nat)) 2, none⟩,
  ⟨none, .store 23 (.tmp (170 : Nat)) (.tmp (167 : Nat)), none⟩,
  ⟨(some 171), .nilCheck (.tmp (166 : Nat)), none⟩,
  ⟨(some 172), .fieldAddr 171 (.tmp (171 : Nat)) 3, none⟩,
  ⟨none, .store 3 (.tmp (172 : Nat)) (.tmp (168 : Nat)), none⟩]
def __inverse_search__run_r23 : List SO := [⟨(some 173), .move (.tmp (0 : Nat)), none⟩,
  ⟨(some 174), .nilCheck (.tmp (173 : Nat)), none⟩,
  ⟨(some 175), .fieldAddr 171 (.tmp (174 : Nat)) 6, none⟩,
  ⟨(some 176), .load 23 (.tmp (175 : Nat)), none⟩,
  ⟨(some 177), .move (.tmp (4 : Nat)), none⟩,
  ⟨(some 178), .indexAddr 23 (.tmp (176 : Nat)) (.tmp (177 : Nat)), none⟩,
  ⟨(some 179), .load 3 (.tmp (178 : Nat)), none⟩,
  ⟨(some 180), .move (.tmp (0 : Nat)), none⟩,
  ⟨(some 181), .nilCheck (.tmp (180 : Nat)), none⟩,
  ⟨(some 182), .fieldAddr 171 (.tmp (181 : Nat)) 7, none⟩,
  ⟨(some 183), .load 23 (.tmp (182 : Nat)), none⟩,
  ⟨(some 184), .move (.tmp (4 : Nat)), none⟩,
  ⟨(some 185), .indexAddr 23 (.tmp (183 : Nat)) (.tmp (184 : Nat)), none⟩,
  ⟨(some 186), .load 3 (.tmp (185 : Nat)), none⟩,
  ⟨(some 12), .assign (.tmp (179 : Nat)), none⟩,
  ⟨(some 13), .assign (.tmp (186 : Nat)), none⟩]
def __inverse_search__run_a23 : List (List Nat) := [[], [0], [1], [2], [], [3, 4], [5], [], [7], [8], [9], [], [10, 11], [12], [6, 0, 1, 2, 3, 4, 5, 6], [13, 14, 0, 1, 2, 3, 4, 5, 6, 7, 8, 9, 10, 11, 12, 13, 14]]
def __inverse_search__run_r24 : List SO := [⟨(some 187), .move (.tmp (0 : Nat)), none⟩,
  ⟨(some 188), .nilCheck (.tmp (187 : Nat)), none⟩,
  ⟨(some 189), .fieldAddr 171 (.tmp (188 : Nat)) 7, none⟩,
  ⟨(some 190), .load 23 (.tmp (189 : Nat)), none⟩,
  ⟨(some 191), .move (.tmp (4 : Nat)), none⟩,
  ⟨(some 192), .move (.tmp (12 : Nat)), none⟩,
  ⟨(some 193), .move (.tmp (13 : Nat)), none⟩,
  ⟨(some 194), .binOp .add 3 (.tmp (192 : Nat)) (.tmp (193 : Nat)) 3, none⟩,
  ⟨(some 195), .binOp .quo 3 (.tmp (194 : Nat)) (.const (.int .i64 2)) 3, none⟩,
  ⟨(some 196), .indexAddr 23 (.tmp (190 : Nat)) (.tmp (191 : Nat)), none⟩,
  ⟨none, .store 3 (.tmp (196 : Nat)) (.tmp (195 : Nat)), none⟩]
def __inverse_search__run_r25 : List SO := [⟨(some 197), .move (.tmp (0 : Nat)), none⟩,
  ⟨(some 198), .call ⟨(.value (.func (100 : Nat))), #[(.tmp (197 : Nat))], #[169]⟩, none⟩]
def __inverse_search__run_r26 : List SO := [⟨(some 199), .move (.tmp (0 : Nat)), none⟩,
  ⟨(some 200), .nilCheck (.tmp (199 : Nat)), none⟩,
  ⟨(some 201), .fieldAddr 171 (.tmp (200 : Nat)) 6, none⟩,
  ⟨(some 202), .load 23 (.tmp (201 : Nat)), none⟩,
  ⟨(some 203), .move (.tmp (4 : Nat)), none⟩,
  ⟨(some 204), .move (.tmp (0 : Nat)), none⟩,
  ⟨(some 205), .nilCheck (.tmp (204 : Nat)), none⟩,
  ⟨(some 206), .fieldAddr 171 (.tmp (205 : Nat)) 7, none⟩,
  ⟨(some 207), .load 23 (.tmp (206 : Nat)), none⟩,
  ⟨(some 208), .move (.tmp (4 : Nat)), none⟩,
  ⟨(some 209), .move (.tmp (12 : Nat)), none⟩,
  ⟨(some 210), .move (.tmp (13 : Nat)), none⟩,
  ⟨(some 211), .binOp .add 3 (.tmp (209 : Nat)) (.tmp (210 : Nat)) 3, none⟩,
  ⟨(some 212), .binOp .quo 3 (.tmp (211 : Nat)) (.const (.int .i64 2)) 3, none⟩,
  ⟨(some 213), .binOp .add 3 (.tmp (212 : Nat)) (.const (.int .i64 1)) 3, none⟩,
  ⟨(some 214), .move (.tmp (13 : Nat)), none⟩,
  ⟨(some 215), .indexAddr 23 (.tmp (202 : Nat)) (.tmp (203 : Nat)), none⟩,
  ⟨none, .store 3 (.tmp (215 : Nat)) (.tmp (213 : Nat)), none⟩,
  ⟨(some 216), .indexAddr 23 (.tmp (207 : Nat)) (.tmp (208 : Nat)), none⟩,
  ⟨none, .store 3 (.tmp (216 : Nat)) (.tmp (214 : Nat)), none⟩]
def __inverse_search__run_a26 : List (List Nat) := [[], [0], [1], [2], [], [], [5], [6], [7], [], [], [], [10, 11], [12], [13], [], [3, 4, 0, 1, 2, 3, 4, 8, 10, 11, 12, 13, 14], [16, 14, 0, 1, 2, 3, 4, 8, 10, 11, 12, 13, 14], [8, 9, 0, 1, 2, 3, 4, 5, 6, 7, 8, 9, 10, 11, 12, 13, 14, 15, 16, 17], [18, 15, 17, 0, 1, 2, 3, 4, 5, 6, 7, 8, 9, 10, 11, 12, 13, 14, 15, 16, 17]]
def __inverse_search__run_r27 : List SO := [⟨(some 217), .move (.tmp (0 : Nat)), none⟩,
  ⟨(some 218), .call ⟨(.value (.func (100 : Nat))), #[(.tmp (217 : Nat))], #[169]⟩, none⟩]
def __inverse_search__run_r28 : List SO := [⟨(some 219), .move (.tmp (0 : Nat)), none⟩,
  ⟨(some 220), .nilCheck (.tmp (219 : Nat)), none⟩,
  ⟨(some 221), .fieldAddr 171 (.tmp (220 : Nat)) 6, none⟩,
  ⟨(some 222), .load 23 (.tmp (221 : Nat)), none⟩,
  ⟨(some 223), .move (.tmp (4 : Nat)), none⟩,
  ⟨(some 224), .move (.tmp (12 : Nat)), none⟩,
  ⟨(some 225), .indexAddr 23 (.tmp (222 : Nat)) (.tmp (223 : Nat)), none⟩,
  ⟨none, .store 3 (.tmp (225 : Nat)) (.tmp (224 : Nat)), none⟩]
def __inverse_search__run_c : SF := ⟨226, (.seq (.reg __inverse_search__run_r0)
  (.seq (.seq (.reg __inverse_search__run_r1)
  (.block 0 (.loop (.seq (.reg __inverse_search__run_r2)
  (.seq (.cond (.tmp (20 : Nat)) .skip (.exit 0))
  (.seq (.block 1 (.seq (.reg __inverse_search__run_r3)
  (.seq (.regd __inverse_search__run_r4 __inverse_search__run_a4)
  (.seq (.regd __inverse_search__run_r5 __inverse_search__run_a5)
  (.seq (.reg __inverse_search__run_r6)
  (.cond (.tmp (56 : Nat)) (.reg __inverse_search__run_r7) .skip))))))
  (.reg __inverse_search__run_r8)))))))
  (.seq (.seq (.reg __inverse_search__run_r9)
  (.cond (.tmp (68 : Nat)) .ret .skip))
  (.seq (.seq (.reg __inverse_search__run_r10)
  (.cond (.tmp (73 : Nat)) (.seq (.reg __inverse_search__run_r11)
  (.seq (.reg __inverse_search__run_r12)
  (.cond (.tmp (94 : Nat)) .ret .skip))) .skip))
  (.seq (.seq (.reg __inverse_search__run_r13)
  (.cond (.tmp (96 : Nat)) (.seq (.reg __inverse_search__run_r14)
  (.seq (.seq (.reg __inverse_search__run_r15)
  (.block 2 (.loop (.seq (.reg __inverse_search__run_r16)
  (.seq (.cond (.tmp (109 : Nat)) .skip (.exit 2))
  (.seq (.block 3 (.seq (.reg __inverse_search__run_r17)
  (.reg __inverse_search__run_r18)))
  (.reg __inverse_search__run_r19)))))))
  (.seq (.regd __inverse_search__run_r20 __inverse_search__run_a20)
  (.seq (.seq (.reg __inverse_search__run_r21)
  (.cond (.tmp (164 : Nat)) (.reg __inverse_search__run_r22) .skip))
  .ret)))) .skip))
  (.seq (.regd __inverse_search__run_r23 __inverse_search__run_a23)
  (.seq (.reg __inverse_search__run_r24)
  (.seq (.reg __inverse_search__run_r25)
  (.seq (.regd __inverse_search__run_r26 __inverse_search__run_a26)
  (.seq (.reg __inverse_search__run_r27)
  (.reg __inverse_search__run_r28))))))))))), []⟩
theorem __inverse_search__run_s : slimF Try.prog 100 = some __inverse_search__run_c := by kernel_rfl
/-- (*printworks/inverse.search).bound -/
def __inverse_search__bound_r0 : List SO := [⟨(some 2), .assign (.const (.int .i64 0)), none⟩]
def __inverse_search__bound_r1 : List SO := [⟨(some 10), .move (.tmp (0 : Nat)), none⟩,
  ⟨(some 11), .nilCheck (.tmp (10 : Nat)), none⟩,
  ⟨(some 12), .fieldAddr 171 (.tmp (11 : Nat)) 6, none⟩,
  ⟨(some 13), .load 23 (.tmp (12 : Nat)), none⟩,
  ⟨(some 14), .call ⟨(.builtin .len), #[(.tmp (13 : Nat))], #[23]⟩, none⟩,
  ⟨(some 15), .move (.const (.int .i64 0)), none⟩]
def __inverse_search__bound_r2 : List SO := [⟨(some 16), .binOp .lss 3 (.tmp (15 : Nat)) (.tmp (14 : Nat)) 3, none⟩]
def __inverse_search__bound_r3 : List SO := [⟨(some 17), .move (.tmp (15 : Nat)), none⟩,
  ⟨(some 3), .assign (.tmp (17 : Nat)), none⟩]
def __inverse_search__bound_r4 : List SO := [⟨(some 18), .move (.tmp (0 : Nat)), none⟩,
  ⟨(some 19), .nilCheck (.tmp (18 : Nat)), none⟩,
  ⟨(some 20), .fieldAddr 171 (.tmp (19 : Nat)) 4, none⟩,
  ⟨(some 21), .load 23 (.tmp (20 : Nat)), none⟩,
  ⟨(some 22), .move (.tmp (3 : Nat)), none⟩,
  ⟨(some 23), .move (.tmp (0 : Nat)), none⟩,
  ⟨(some 24), .nilCheck (.tmp (23 : Nat)), none⟩,
  ⟨(some 25), .fieldAddr 171 (.tmp (24 : Nat)) 0, none⟩,
  ⟨(some 26), .load 105 (.tmp (25 : Nat)), none⟩,
  ⟨(some 27), .move (.tmp (3 : Nat)), none⟩,
  ⟨(some 28), .move (.tmp (0 : Nat)), none⟩,
  ⟨(some 29), .nilCheck (.tmp (28 : Nat)), none⟩,
  ⟨(some 30), .fieldAddr 171 (.tmp (29 : Nat)) 6, none⟩,
  ⟨(some 31), .load 23 (.tmp (30 : Nat)), none⟩,
  ⟨(some 32), .move (.tmp (3 : Nat)), none⟩,
  ⟨(some 33), .indexAddr 23 (.tmp (31 : Nat)) (.tmp (32 : Nat)), none⟩,
  ⟨(some 34), .load 3 (.tmp (33 : Nat)), none⟩,
  ⟨(some 35), .move (.tmp (0 : Nat)), none⟩,
  ⟨(some 36), .nilCheck (.tmp (35 : Nat)), none⟩,
  ⟨(some 37), .fieldAddr 171 (.tmp (36 : Nat)) 1, none⟩,
  ⟨(some 38), .load 146 (.tmp (37 : Nat)), none⟩,
  ⟨(some 39), .nilCheck (.tmp (38 : Nat)), none⟩,
  ⟨(some 40), .fieldAddr 142 (.tmp (39 : Nat)) 1, none⟩,
  ⟨(some 41), .load 3 (.tmp (40 : Nat)), none⟩,
  ⟨(some 42), .binOp .mul 3 (.tmp (34 : Nat)) (.tmp (41 : Nat)) 3, none⟩,
  ⟨(some 43), .call ⟨(.value (.func (89 : Nat))), #[(.tmp (26 : Nat)), (.tmp (27 : Nat)), (.tmp (42 : Nat))], #[105, 3, 3]⟩, none⟩,
  ⟨(some 44), .indexAddr 23 (.tmp (21 : Nat)) (.tmp (22 : Nat)), none⟩,
  ⟨none, .store 3 (.tmp (44 : Nat)) (.tmp (43 : Nat)), none⟩]
def __inverse_search__bound_a4 : List (List Nat) := [[], [0], [1], [2], [], [], [5], [6], [7], [], [], [10], [11], [12], [], [13, 14], [15], [], [17], [18], [19], [20], [21], [22], [16, 23], [8, 9, 24], [3, 4, 0, 1, 2, 3, 4, 5, 6, 7, 8, 9, 10, 11, 12, 13, 14, 15, 16, 17, 18, 19, 20, 21, 22, 23, 24, 25], [26, 25, 25, 0, 1, 2, 3, 4, 5, 6, 7, 8, 9, 10, 11, 12, 13, 14, 15, 16, 17, 18, 19, 20, 21, 22, 23, 24, 25]]
def __inverse_search__bound_r5 : List SO := [⟨(some 45), .move (.tmp (0 : Nat)), none⟩,
  ⟨(some 46), .nilCheck (.tmp (45 : Nat)), none⟩,
  ⟨(some 47), .fieldAddr 171 (.tmp (46 : Nat)) 5, none⟩,
  ⟨(some 48), .load 23 (.tmp (47 : Nat)), none⟩,
  ⟨(some 49), .move (.tmp (3 : Nat)), none⟩,
  ⟨(some 50), .move (.tmp (0 : Nat)), none⟩,
  ⟨(some 51), .nilCheck (.tmp (50 : Nat)), none⟩,
  ⟨(some 52), .fieldAddr 171 (.tmp (51 : Nat)) 0, none⟩,
  ⟨(some 53), .load 105 (.tmp (52 : Nat)), none⟩,
  ⟨(some 54), .move (.tmp (3 : Nat)), none⟩,
  ⟨(some 55), .move (.tmp (0 : Nat)), none⟩,
  ⟨(some 56), .nilCheck (.tmp (55 : Nat)), none⟩,
  ⟨(some 57), .fieldAddr 171 (.tmp (56 : Nat)) 7, none⟩,
  ⟨(some 58), .load 23 (.tmp (57 : Nat)), none⟩,
  ⟨(some 59), .move (.tmp (3 : Nat)), none⟩,
  ⟨(some 60), .indexAddr 23 (.tmp (58 : Nat)) (.tmp (59 : Nat)), none⟩,
  ⟨(some 61), .load 3 (.tmp (60 : Nat)), none⟩,
  ⟨(some 62), .move (.tmp (0 : Nat)), none⟩,
  ⟨(some 63), .nilCheck (.tmp (62 : Nat)), none⟩,
  ⟨(some 64), .fieldAddr 171 (.tmp (63 : Nat)) 1, none⟩,
  ⟨(some 65), .load 146 (.tmp (64 : Nat)), none⟩,
  ⟨(some 66), .nilCheck (.tmp (65 : Nat)), none⟩,
  ⟨(some 67), .fieldAddr 142 (.tmp (66 : Nat)) 1, none⟩,
  ⟨(some 68), .load 3 (.tmp (67 : Nat)), none⟩,
  ⟨(some 69), .binOp .mul 3 (.tmp (61 : Nat)) (.tmp (68 : Nat)) 3, none⟩,
  ⟨(some 70), .call ⟨(.value (.func (89 : Nat))), #[(.tmp (53 : Nat)), (.tmp (54 : Nat)), (.tmp (69 : Nat))], #[105, 3, 3]⟩, none⟩,
  ⟨(some 71), .indexAddr 23 (.tmp (48 : Nat)) (.tmp (49 : Nat)), none⟩,
  ⟨none, .store 3 (.tmp (71 : Nat)) (.tmp (70 : Nat)), none⟩]
def __inverse_search__bound_a5 : List (List Nat) := [[], [0], [1], [2], [], [], [5], [6], [7], [], [], [10], [11], [12], [], [13, 14], [15], [], [17], [18], [19], [20], [21], [22], [16, 23], [8, 9, 24], [3, 4, 0, 1, 2, 3, 4, 5, 6, 7, 8, 9, 10, 11, 12, 13, 14, 15, 16, 17, 18, 19, 20, 21, 22, 23, 24, 25], [26, 25, 25, 0, 1, 2, 3, 4, 5, 6, 7, 8, 9, 10, 11, 12, 13, 14, 15, 16, 17, 18, 19, 20, 21, 22, 23, 24, 25]]
def __inverse_search__bound_r6 : List SO := [⟨(some 72), .binOp .add 3 (.tmp (15 : Nat)) (.const (.int .i64 1)) 3, none⟩,
  ⟨(some 15), .move (.tmp (72 : Nat)), none⟩]
def __inverse_search__bound_r7 : List SO := [⟨(some 74), .move (.tmp (0 : Nat)), none⟩,
  ⟨(some 75), .nilCheck (.tmp (74 : Nat)), none⟩,
  ⟨(some 76), .fieldAddr 171 (.tmp (75 : Nat)) 0, none⟩,
  ⟨(some 77), .load 105 (.tmp (76 : Nat)), none⟩,
  ⟨(some 78), .nilCheck (.tmp (77 : Nat)), none⟩,
  ⟨(some 79), .fieldAddr 62 (.tmp (78 : Nat)) 3, none⟩,
  ⟨(some 80), .move (.tmp (0 : Nat)), none⟩,
  ⟨(some 81), .nilCheck (.tmp (80 : Nat)), none⟩,
  ⟨(some 82), .fieldAddr 171 (.tmp (81 : Nat)) 4, none⟩,
  ⟨(some 83), .load 23 (.tmp (82 : Nat)), none⟩,
  ⟨(some 84), .move (.tmp (0 : Nat)), none⟩,
  ⟨(some 85), .nilCheck (.tmp (84 : Nat)), none⟩,
  ⟨(some 86), .fieldAddr 171 (.tmp (85 : Nat)) 5, none⟩,
  ⟨(some 87), .load 23 (.tmp (86 : Nat)), none⟩,
  ⟨(some 88), .call ⟨(.value (.func (110 : Nat))), #[(.tmp (79 : Nat)), (.tmp (83 : Nat)), (.tmp (87 : Nat))], #[82, 23, 23]⟩, none⟩,
  ⟨(some 73), .move (.tmp (88 : Nat)), none⟩,
  ⟨(some 89), .extract (.tmp (73 : Nat)) 0, none⟩,
  ⟨(some 90), .extract (.tmp (73 : Nat)) 1, none⟩,
  ⟨(some 4), .assign (.tmp (89 : Nat)), none⟩,
  ⟨(some 5), .assign (.tmp (90 : Nat)), none⟩]
def __inverse_search__bound_a7 : List (List Nat) := [[], [0], [1], [2], [3], [4], [], [6], [7], [8], [], [10], [11], [12], [5, 9, 13], [14], [15], [15], [16, 14, 0, 1, 2, 3, 4, 5, 6, 7, 8, 9, 10, 11, 12, 13, 14, 15, 16], [17, 18, 0, 1, 2, 3, 4, 5, 6, 7, 8, 9, 10, 11, 12, 13, 14, 15, 16, 17, 18]]
def __inverse_search__bound_r8 : List SO := [⟨(some 6), .assign (.const (.int .i64 0)), none⟩]
def __inverse_search__bound_r9 : List SO := [⟨(some 91), .move (.tmp (0 : Nat)), none⟩,
  ⟨(some 92), .nilCheck (.tmp (91 : Nat)), none⟩,
  ⟨(some 93), .fieldAddr 171 (.tmp (92 : Nat)) 1, none⟩,
  ⟨(some 94), .load 146 (.tmp (93 : Nat)), none⟩,
  ⟨(some 95), .nilCheck (.tmp (94 : Nat)), none⟩,
  ⟨(some 96), .fieldAddr 142 (.tmp (95 : Nat)) 0, none⟩,
  ⟨(some 97), .fieldAddr 43 (.tmp (96 : Nat)) 0, none⟩,
  ⟨(some 98), .load 3 (.tmp (97 : Nat)), none⟩,
  ⟨(some 99), .move (.tmp (0 : Nat)), none⟩,
  ⟨(some 100), .nilCheck (.tmp (99 : Nat)), none⟩,
  ⟨(some 101), .fieldAddr 171 (.tmp (100 : Nat)) 1, none⟩,
  ⟨(some 102), .load 146 (.tmp (101 : Nat)), none⟩,
  ⟨(some 103), .nilCheck (.tmp (102 : Nat)), none⟩,
  ⟨(some 104), .fieldAddr 142 (.tmp (103 : Nat)) 0, none⟩,
  ⟨(some 105), .fieldAddr 43 (.tmp (104 : Nat)) 1, none⟩,
  ⟨(some 106), .load 3 (.tmp (105 : Nat)), none⟩,
  ⟨(some 107), .move (.tmp (0 : Nat)), none⟩,
  ⟨(some 108), .nilCheck (.tmp (107 : Nat)), none⟩,
  ⟨(some 109), .fieldAddr 171 (.tmp (108 : Nat)) 1, none⟩,
  ⟨(some 110), .load 146 (.tmp (109 : Nat)), none⟩,
  ⟨(some 111), .nilCheck (.tmp (110 : Nat)), none⟩,
  ⟨(some 112), .fieldAddr 142 (.tmp (111 : Nat)) 0, none⟩,
  ⟨(some 113), .fieldAddr 43 (.tmp (112 : Nat)) 2, none⟩,
  ⟨(some 114), .load 3 (.tmp (113 : Nat)), none⟩,
  ⟨(some 115), .build 159 #[(0, (.tmp (98 : Nat))), (1, (.tmp (106 : Nat))), (2, (.tmp (114 : Nat)))], none⟩,
  ⟨(some 116), .move (.const (.int .i64 0)), none⟩]
def __inverse_search__bound_a9 : List (List Nat) := [[], [0], [1], [2], [3], [4], [5], [6], [], [8], [9], [10], [11], [12], [13], [14], [], [16], [17], [18], [19], [20], [21], [22], [7, 15, 23], []]
def __inverse_search__bound_r10 : List SO := [⟨(some 117), .binOp .lss 3 (.tmp (116 : Nat)) (.const (.int .i64 3)) 3, none⟩]
def __inverse_search__bound_r11 : List SO := [⟨(some 118), .move (.tmp (116 : Nat)), none⟩,
  ⟨(some 119), .index 159 (.tmp (115 : Nat)) (.tmp (116 : Nat)), none⟩,
  ⟨(some 7), .assign (.tmp (118 : Nat)), none⟩,
  ⟨(some 8), .assign (.tmp (119 : Nat)), none⟩]
def __inverse_search__bound_r12 : List SO := [⟨(some 120), .move (.tmp (4 : Nat)), none⟩,
  ⟨(some 121), .move (.tmp (7 : Nat)), none⟩,
  ⟨(some 122), .indexAddr 23 (.tmp (120 : Nat)) (.tmp (121 : Nat)), none⟩,
  ⟨(some 123), .load 3 (.tmp (122 : Nat)), none⟩,
  ⟨(some 124), .move (.tmp (8 : Nat)), none⟩,
  ⟨(some 125), .binOp .sub 3 (.tmp (123 : Nat)) (.tmp (124 : Nat)) 3, none⟩,
  ⟨(some 126), .move (.tmp (8 : Nat)), none⟩,
  ⟨(some 127), .move (.tmp (5 : Nat)), none⟩,
  ⟨(some 128), .move (.tmp (7 : Nat)), none⟩,
  ⟨(some 129), .indexAddr 23 (.tmp (127 : Nat)) (.tmp (128 : Nat)), none⟩,
  ⟨(some 130), .load 3 (.tmp (129 : Nat)), none⟩,
  ⟨(some 131), .binOp .sub 3 (.tmp (126 : Nat)) (.tmp (130 : Nat)) 3, none⟩,
  ⟨(some 132), .call ⟨(.builtin .max), #[(.tmp (125 : Nat)), (.tmp (131 : Nat)), (.const (.int .i64 0))], #[3, 3, 3]⟩, none⟩,
  ⟨(some 9), .assign (.tmp (132 : Nat)), none⟩]
def __inverse_search__bound_a12 : List (List Nat) := [[], [], [0, 1], [2], [], [3, 4], [], [], [], [7, 8], [9], [6, 10], [5, 11], [12, 0, 1, 2, 3, 4, 5, 6, 7, 8, 9, 10, 11, 12]]
def __inverse_search__bound_r13 : List SO := [⟨(some 133), .move (.tmp (6 : Nat)), none⟩,
  ⟨(some 134), .move (.tmp (9 : Nat)), none⟩,
  ⟨(some 135), .move (.tmp (9 : Nat)), none⟩,
  ⟨(some 136), .binOp .mul 3 (.tmp (134 : Nat)) (.tmp (135 : Nat)) 3, none⟩,
  ⟨(some 137), .binOp .add 3 (.tmp (133 : Nat)) (.tmp (136 : Nat)) 3, none⟩,
  ⟨(some 6), .assign (.tmp (137 : Nat)), none⟩]
def __inverse_search__bound_r14 : List SO := [⟨(some 138), .binOp .add 3 (.tmp (116 : Nat)) (.const (.int .i64 1)) 3, none⟩,
  ⟨(some 116), .move (.tmp (138 : Nat)), none⟩]
def __inverse_search__bound_r15 : List SO := [⟨(some 139), .move (.tmp (6 : Nat)), none⟩,
  ⟨(some 2), .assign (.tmp (139 : Nat)), none⟩]
def __inverse_search__bound_c : SF := ⟨140, (.seq (.reg __inverse_search__bound_r0)
  (.seq (.seq (.reg __inverse_search__bound_r1)
  (.block 0 (.loop (.seq (.reg __inverse_search__bound_r2)
  (.seq (.cond (.tmp (16 : Nat)) .skip (.exit 0))
  (.seq (.block 1 (.seq (.reg __inverse_search__bound_r3)
  (.seq (.regd __inverse_search__bound_r4 __inverse_search__bound_a4)
  (.regd __inverse_search__bound_r5 __inverse_search__bound_a5))))
  (.reg __inverse_search__bound_r6)))))))
  (.seq (.regd __inverse_search__bound_r7 __inverse_search__bound_a7)
  (.seq (.reg __inverse_search__bound_r8)
  (.seq (.seq (.regd __inverse_search__bound_r9 __inverse_search__bound_a9)
  (.block 2 (.loop (.seq (.reg __inverse_search__bound_r10)
  (.seq (.cond (.tmp (117 : Nat)) .skip (.exit 2))
  (.seq (.block 3 (.seq (.reg __inverse_search__bound_r11)
  (.seq (.regd __inverse_search__bound_r12 __inverse_search__bound_a12)
  (.reg __inverse_search__bound_r13))))
  (.reg __inverse_search__bound_r14)))))))
  (.seq (.reg __inverse_search__bound_r15)
  .ret)))))), [.tmp 2]⟩
theorem __inverse_search__bound_s : slimF Try.prog 107 = some __inverse_search__bound_c := by kernel_rfl
/-- (*printworks/inverse.search).before -/
def __inverse_search__before_r0 : List SO := [⟨(some 2), .assign (.const (.bool false)), none⟩]
def __inverse_search__before_r1 : List SO := [⟨(some 5), .move (.tmp (0 : Nat)), none⟩,
  ⟨(some 6), .nilCheck (.tmp (5 : Nat)), none⟩,
  ⟨(some 7), .fieldAddr 171 (.tmp (6 : Nat)) 6, none⟩,
  ⟨(some 8), .load 23 (.tmp (7 : Nat)), none⟩,
  ⟨(some 9), .call ⟨(.builtin .len), #[(.tmp (8 : Nat))], #[23]⟩, none⟩,
  ⟨(some 10), .move (.const (.int .i64 0)), none⟩]
def __inverse_search__before_r2 : List SO := [⟨(some 11), .binOp .lss 3 (.tmp (10 : Nat)) (.tmp (9 : Nat)) 3, none⟩]
def __inverse_search__before_r3 : List SO := [⟨(some 12), .move (.tmp (10 : Nat)), none⟩,
  ⟨(some 13), .indexAddr 23 (.tmp (8 : Nat)) (.tmp (10 : Nat)), none⟩,
  ⟨(some 14), .load 3 (.tmp (13 : Nat)), none⟩,
  ⟨(some 3), .assign (.tmp (12 : Nat)), none⟩,
  ⟨(some 4), .assign (.tmp (14 : Nat)), none⟩]
def __inverse_search__before_r4 : List SO := [⟨(some 15), .move (.tmp (4 : Nat)), none⟩,
  ⟨(some 16), .move (.tmp (0 : Nat)), none⟩,
  ⟨(some 17), .nilCheck (.tmp (16 : Nat)), none⟩,
  ⟨(some 18), .fieldAddr 171 (.tmp (17 : Nat)) 1, none⟩,
  ⟨(some 19), .load 146 (.tmp (18 : Nat)), none⟩,
  ⟨(some 20), .nilCheck (.tmp (19 : Nat)), none⟩,
  ⟨(some 21), .fieldAddr 142 (.tmp (20 : Nat)) 1, none⟩,
  ⟨(some 22), .load 3 (.tmp (21 : Nat)), none⟩,
  ⟨(some 23), .binOp .mul 3 (.tmp (15 : Nat)) (.tmp (22 : Nat)) 3, none⟩,
  ⟨(some 4), .assign (.tmp (23 : Nat)), none⟩]
def __inverse_search__before_r5 : List SO := [⟨(some 24), .move (.tmp (4 : Nat)), none⟩,
  ⟨(some 25), .move (.tmp (0 : Nat)), none⟩,
  ⟨(some 26), .nilCheck (.tmp (25 : Nat)), none⟩,
  ⟨(some 27), .fieldAddr 171 (.tmp (26 : Nat)) 2, none⟩,
  ⟨(some 28), .load 23 (.tmp (27 : Nat)), none⟩,
  ⟨(some 29), .move (.tmp (3 : Nat)), none⟩,
  ⟨(some 30), .indexAddr 23 (.tmp (28 : Nat)) (.tmp (29 : Nat)), none⟩,
  ⟨(some 31), .load 3 (.tmp (30 : Nat)), none⟩,
  ⟨(some 32), .binOp .neq 3 (.tmp (24 : Nat)) (.tmp (31 : Nat)) 3, none⟩]
def __inverse_search__before_r6 : List SO := [⟨(some 33), .move (.tmp (4 : Nat)), none⟩,
  ⟨(some 34), .move (.tmp (0 : Nat)), none⟩,
  ⟨(some 35), .nilCheck (.tmp (34 : Nat)), none⟩,
  ⟨(some 36), .fieldAddr 171 (.tmp (35 : Nat)) 2, none⟩,
  ⟨(some 37), .load 23 (.tmp (36 : Nat)), none⟩,
  ⟨(some 38), .move (.tmp (3 : Nat)), none⟩,
  ⟨(some 39), .indexAddr 23 (.tmp (37 : Nat)) (.tmp (38 : Nat)), none⟩,
  ⟨(some 40), .load 3 (.tmp (39 : Nat)), none⟩,
  ⟨(some 41), .binOp .lss 3 (.tmp (33 : Nat)) (.tmp (40 : Nat)) 3, none⟩,
  ⟨(some 2), .assign (.tmp (41 : Nat)), none⟩]
def __inverse_search__before_r7 : List SO := [⟨(some 42), .binOp .add 3 (.tmp (10 : Nat)) (.const (.int .i64 1)) 3, none⟩,
  ⟨(some 10), .move (.tmp (42 : Nat)), none⟩]
def __inverse_search__before_r8 : List SO := [⟨(some 2), .assign (.const (.bool false)), none⟩]
def __inverse_search__before_c : SF := ⟨43, (.seq (.reg __inverse_search__before_r0)
  (.seq (.seq (.reg __inverse_search__before_r1)
  (.block 0 (.loop (.seq (.reg __inverse_search__before_r2)
  (.seq (.cond (.tmp (11 : Nat)) .skip (.exit 0))
  (.seq (.block 1 (.seq (.reg __inverse_search__before_r3)
  (.seq (.reg __inverse_search__before_r4)
  (.seq (.reg __inverse_search__before_r5)
  (.cond (.tmp (32 : Nat)) (.seq (.reg __inverse_search__before_r6)
  .ret) .skip)))))
  (.reg __inverse_search__before_r7)))))))
  (.seq (.reg __inverse_search__before_r8)
  .ret))), [.tmp 2]⟩
theorem __inverse_search__before_s : slimF Try.prog 108 = some __inverse_search__before_c := by kernel_rfl
def tbl_inverse : List (Nat × SF) := [(92, inverse_Check_c), (85, inverse_Quick_c), (100, __inverse_search__run_c), (107, __inverse_search__bound_c), (108, __inverse_search__before_c)]
theorem tbl_inverse_ok : okT Try.prog tbl_inverse := ⟨inverse_Check_s, inverse_Quick_s, __inverse_search__run_s, __inverse_search__bound_s, __inverse_search__before_s, trivial⟩

end Go.Proofs.Ytogbkhopanaoiaa
namespace Go.Proofs.Ytogbkhopanaoiaa
open Go Go.Lite
set_option linter.unusedVariables false

/-- printworks/gamut.Map -/
def gamut_Map_r0 : List SO := [⟨(some 3), .box 62 (.tmp (0 : Nat)), none⟩,
  ⟨(some 4), .box 43 (.tmp (1 : Nat)), none⟩,
  ⟨(some 5), .box 43 (.tmp (2 : Nat)), none⟩,
  ⟨(some 6), .alloc 43, none⟩,
  ⟨(some 7), .assign (.const (.int .i64 0)), none⟩,
  ⟨(some 8), .assign (.const (.int .i64 0)), none⟩]
def gamut_Map_r1 : List SO := [⟨(some 13), .load 62 (.tmp (3 : Nat)), none⟩,
  ⟨(some 14), .call ⟨(.value (.func (33 : Nat))), #[(.tmp (13 : Nat))], #[62]⟩, none⟩,
  ⟨(some 9), .assign (.tmp (14 : Nat)), none⟩]
def gamut_Map_r2 : List SO := [⟨(some 15), .move (.tmp (9 : Nat)), none⟩,
  ⟨(some 16), .binOp .neq 33 (.tmp (15 : Nat)) (.const (.int .i64 0)) 33, none⟩]
def gamut_Map_r3 : List SO := [⟨(some 17), .build 43 #[], none⟩,
  ⟨(some 18), .move (.tmp (9 : Nat)), none⟩,
  ⟨none, .store 43 (.tmp (6 : Nat)) (.tmp (17 : Nat)), none⟩,
  ⟨(some 7), .assign (.const (.int .i64 0)), none⟩,
  ⟨(some 8), .assign (.tmp (18 : Nat)), none⟩]
def gamut_Map_r4 : List SO := [⟨(some 19), .load 43 (.tmp (4 : Nat)), none⟩,
  ⟨(some 20), .call ⟨(.value (.func (61 : Nat))), #[(.tmp (19 : Nat))], #[43]⟩, none⟩,
  ⟨(some 10), .assign (.tmp (20 : Nat)), none⟩]
def gamut_Map_r5 : List SO := [⟨(some 21), .move (.tmp (10 : Nat)), none⟩,
  ⟨(some 22), .binOp .neq 33 (.tmp (21 : Nat)) (.const (.int .i64 0)) 33, none⟩]
def gamut_Map_r6 : List SO := [⟨(some 23), .build 43 #[], none⟩,
  ⟨(some 24), .move (.tmp (10 : Nat)), none⟩,
  ⟨none, .store 43 (.tmp (6 : Nat)) (.tmp (23 : Nat)), none⟩,
  ⟨(some 7), .assign (.const (.int .i64 0)), none⟩,
  ⟨(some 8), .assign (.tmp (24 : Nat)), none⟩]
def gamut_Map_r7 : List SO := [⟨(some 25), .load 43 (.tmp (5 : Nat)), none⟩,
  ⟨(some 26), .call ⟨(.value (.func (61 : Nat))), #[(.tmp (25 : Nat))], #[43]⟩, none⟩,
  ⟨(some 11), .assign (.tmp (26 : Nat)), none⟩]
def gamut_Map_r8 : List SO := [⟨(some 27), .move (.tmp (11 : Nat)), none⟩,
  ⟨(some 28), .binOp .neq 33 (.tmp (27 : Nat)) (.const (.int .i64 0)) 33, none⟩]
def gamut_Map_r9 : List SO := [⟨(some 29), .build 43 #[], none⟩,
  ⟨(some 30), .move (.tmp (11 : Nat)), none⟩,
  ⟨none, .store 43 (.tmp (6 : Nat)) (.tmp (29 : Nat)), none⟩,
  ⟨(some 7), .assign (.const (.int .i64 0)), none⟩,
  ⟨(some 8), .assign (.tmp (30 : Nat)), none⟩]
def gamut_Map_r10 : List SO := [⟨(some 31), .call ⟨(.value (.func (101 : Nat))), #[(.tmp (3 : Nat))], #[105]⟩, none⟩,
  ⟨(some 12), .assign (.tmp (31 : Nat)), none⟩]
def gamut_Map_r11 : List SO := [⟨(some 32), .move (.tmp (12 : Nat)), none⟩,
  ⟨(some 33), .binOp .neq 33 (.tmp (32 : Nat)) (.const (.int .i64 0)) 33, none⟩]
def gamut_Map_r12 : List SO := [⟨(some 34), .build 43 #[], none⟩,
  ⟨(some 35), .move (.tmp (12 : Nat)), none⟩,
  ⟨none, .store 43 (.tmp (6 : Nat)) (.tmp (34 : Nat)), none⟩,
  ⟨(some 7), .assign (.const (.int .i64 0)), none⟩,
  ⟨(some 8), .assign (.tmp (35 : Nat)), none⟩]
def gamut_Map_r13 : List SO := [⟨(some 36), .load 43 (.tmp (4 : Nat)), none⟩,
  ⟨(some 37), .load 43 (.tmp (5 : Nat)), none⟩,
  ⟨(some 38), .call ⟨(.value (.func (83 : Nat))), #[(.tmp (3 : Nat)), (.tmp (36 : Nat)), (.tmp (37 : Nat))], #[105, 43, 43]⟩, none⟩,
  ⟨(some 39), .extract (.tmp (38 : Nat)) 0, none⟩,
  ⟨(some 40), .extract (.tmp (38 : Nat)) 1, none⟩,
  ⟨(some 41), .extract (.tmp (38 : Nat)) 2, none⟩,
  ⟨none, .store 43 (.tmp (6 : Nat)) (.tmp (39 : Nat)), none⟩,
  ⟨(some 7), .assign (.tmp (40 : Nat)), none⟩,
  ⟨(some 8), .assign (.tmp (41 : Nat)), none⟩]
def gamut_Map_c : SF := ⟨42, (.seq (.reg gamut_Map_r0)
  (.seq (.seq (.reg gamut_Map_r1)
  (.seq (.reg gamut_Map_r2)
  (.cond (.tmp (16 : Nat)) (.seq (.reg gamut_Map_r3)
  .ret) .skip)))
  (.seq (.seq (.reg gamut_Map_r4)
  (.seq (.reg gamut_Map_r5)
  (.cond (.tmp (22 : Nat)) (.seq (.reg gamut_Map_r6)
  .ret) .skip)))
  (.seq (.seq (.reg gamut_Map_r7)
  (.seq (.reg gamut_Map_r8)
  (.cond (.tmp (28 : Nat)) (.seq (.reg gamut_Map_r9)
  .ret) .skip)))
  (.seq (.seq (.reg gamut_Map_r10)
  (.seq (.reg gamut_Map_r11)
  (.cond (.tmp (33 : Nat)) (.seq (.reg gamut_Map_r12)
  .ret) .skip)))
  (.seq (.reg gamut_Map_r13)
  .ret)))))), [.cell 6 43, .tmp 7, .tmp 8]⟩
theorem gamut_Map_s : slimF Try.prog 93 = some gamut_Map_c := by kernel_rfl
/-- printworks/gamut.Quick -/
def gamut_Quick_r0 : List SO := [⟨(some 4), .box 43 (.tmp (1 : Nat)), none⟩,
  ⟨(some 5), .box 43 (.tmp (2 : Nat)), none⟩,
  ⟨(some 6), .alloc 43, none⟩,
  ⟨(some 7), .assign (.const (.int .i64 0)), none⟩,
  ⟨(some 8), .assign (.const (.int .i64 0)), none⟩]
def gamut_Quick_r1 : List SO := [⟨(some 9), .alloc 3, none⟩,
  ⟨(some 10), .alloc 4, none⟩,
  ⟨none, .store 3 (.tmp (9 : Nat)) (.const (.int .i64 (-1))), none⟩,
  ⟨none, .store 4 (.tmp (10 : Nat)) (.const (.bool false)), none⟩]
def gamut_Quick_r2 : List SO := [⟨(some 13), .move (.tmp (0 : Nat)), none⟩,
  ⟨(some 14), .nilCheck (.tmp (13 : Nat)), none⟩,
  ⟨(some 15), .fieldAddr 62 (.tmp (14 : Nat)) 3, none⟩,
  ⟨(some 16), .makeFunc (.func (95 : Nat)) #[] #[(.tmp (5 : Nat)), (.tmp (4 : Nat)), (.tmp (10 : Nat)), (.tmp (9 : Nat))], none⟩,
  ⟨(some 17), .call ⟨(.value (.func (94 : Nat))), #[(.tmp (15 : Nat)), (.tmp (16 : Nat))], #[82, 167]⟩, none⟩]
def gamut_Quick_r3 : List SO := [⟨(some 18), .load 4 (.tmp (10 : Nat)), none⟩,
  ⟨(some 19), .unOp .not 4 (.tmp (18 : Nat)), none⟩]
def gamut_Quick_r4 : List SO := [⟨(some 20), .build 43 #[], none⟩,
  ⟨none, .store 43 (.tmp (6 : Nat)) (.tmp (20 : Nat)), none⟩,
  ⟨(some 7), .assign (.const (.int .i64 0)), none⟩,
  ⟨(some 8), .assign (.const (.int .i64 8)), none⟩]
def gamut_Quick_r5 : List SO := [⟨(some 22), .load 43 (.tmp (5 : Nat)), none⟩,
  ⟨(some 23), .load 43 (.tmp (4 : Nat)), none⟩,
  ⟨(some 24), .load 3 (.tmp (9 : Nat)), none⟩,
  ⟨(some 25), .call ⟨(.value (.func (99 : Nat))), #[(.tmp (22 : Nat)), (.tmp (23 : Nat)), (.tmp (24 : Nat)), (.const (.int .i64 256))], #[43, 43, 3, 3]⟩, none⟩,
  ⟨(some 21), .move (.tmp (25 : Nat)), none⟩,
  ⟨(some 26), .extract (.tmp (21 : Nat)) 0, none⟩,
  ⟨(some 27), .extract (.tmp (21 : Nat)) 1, none⟩,
  ⟨(some 11), .alloc 43, none⟩,
  ⟨none, .store 43 (.tmp (11 : Nat)) (.tmp (26 : Nat)), none⟩,
  ⟨(some 12), .assign (.tmp (27 : Nat)), none⟩]
def gamut_Quick_r6 : List SO := [⟨(some 28), .load 43 (.tmp (11 : Nat)), none⟩,
  ⟨(some 29), .load 3 (.tmp (9 : Nat)), none⟩,
  ⟨(some 30), .move (.tmp (12 : Nat)), none⟩,
  ⟨none, .store 43 (.tmp (6 : Nat)) (.tmp (28 : Nat)), none⟩,
  ⟨(some 7), .assign (.tmp (29 : Nat)), none⟩,
  ⟨(some 8), .assign (.tmp (30 : Nat)), none⟩]
def gamut_Quick_a6 : List (List Nat) := [[], [], [], [0, 0], [1, 3, 0, 1, 3], [2, 4, 0, 1, 2, 3, 4]]
def gamut_Quick_c : SF := ⟨31, (.seq (.reg gamut_Quick_r0)
  (.seq (.reg gamut_Quick_r1)
  (.seq (.reg gamut_Quick_r2)
  (.seq (.seq (.reg gamut_Quick_r3)
  (.cond (.tmp (19 : Nat)) (.seq (.reg gamut_Quick_r4)
  .ret) .skip))
  (.seq (.reg gamut_Quick_r5)
  (.seq (.regd gamut_Quick_r6 gamut_Quick_a6)
  .ret)))))), [.cell 6 43, .tmp 7, .tmp 8]⟩
theorem gamut_Quick_s : slimF Try.prog 83 = some gamut_Quick_c := by kernel_rfl
/-- printworks/gamut.shape -/
def gamut_shape_r0 : List SO := [⟨(some 2), .assign (.const (.int .i64 0)), none⟩]
def gamut_shape_r1 : List SO := [⟨(some 4), .move (.tmp (0 : Nat)), none⟩,
  ⟨(some 5), .nilCheck (.tmp (4 : Nat)), none⟩,
  ⟨(some 6), .fieldAddr 62 (.tmp (5 : Nat)) 1, none⟩,
  ⟨(some 7), .load 22 (.tmp (6 : Nat)), none⟩,
  ⟨(some 8), .call ⟨(.builtin .len), #[(.tmp (7 : Nat))], #[22]⟩, none⟩,
  ⟨(some 9), .binOp .lss 3 (.tmp (8 : Nat)) (.const (.int .i64 3)) 3, none⟩]
def gamut_shape_r2 : List SO := [⟨(some 2), .assign (.const (.int .i64 14)), none⟩]
def gamut_shape_r3 : List SO := [⟨(some 3), .assign (.const (.int .i64 1)), none⟩]
def gamut_shape_r4 : List SO := [⟨(some 10), .move (.tmp (0 : Nat)), none⟩,
  ⟨(some 11), .nilCheck (.tmp (10 : Nat)), none⟩,
  ⟨(some 12), .fieldAddr 62 (.tmp (11 : Nat)) 1, none⟩,
  ⟨(some 13), .load 22 (.tmp (12 : Nat)), none⟩,
  ⟨(some 14), .call ⟨(.builtin .len), #[(.tmp (13 : Nat))], #[22]⟩, none⟩,
  ⟨(some 15), .move (.const (.int .i64 0)), none⟩]
def gamut_shape_r5 : List SO := [⟨(some 16), .binOp .lss 3 (.tmp (15 : Nat)) (.tmp (14 : Nat)) 3, none⟩]
def gamut_shape_r6 : List SO := [⟨(some 17), .move (.tmp (3 : Nat)), none⟩,
  ⟨(some 18), .move (.tmp (0 : Nat)), none⟩,
  ⟨(some 19), .nilCheck (.tmp (18 : Nat)), none⟩,
  ⟨(some 20), .fieldAddr 62 (.tmp (19 : Nat)) 3, none⟩,
  ⟨(some 21), .fieldAddr 25 (.tmp (20 : Nat)) 2, none⟩,
  ⟨(some 22), .load 3 (.tmp (21 : Nat)), none⟩,
  ⟨(some 23), .binOp .sub 3 (.tmp (22 : Nat)) (.const (.int .i64 1)) 3, none⟩,
  ⟨(some 24), .binOp .mul 3 (.tmp (17 : Nat)) (.tmp (23 : Nat)) 3, none⟩,
  ⟨(some 3), .assign (.tmp (24 : Nat)), none⟩]
def gamut_shape_r7 : List SO := [⟨(some 25), .binOp .add 3 (.tmp (15 : Nat)) (.const (.int .i64 1)) 3, none⟩,
  ⟨(some 15), .move (.tmp (25 : Nat)), none⟩]
def gamut_shape_r8 : List SO := [⟨(some 26), .move (.tmp (3 : Nat)), none⟩,
  ⟨(some 27), .binOp .gtr 3 (.tmp (26 : Nat)) (.const (.int .i64 64)) 3, none⟩]
def gamut_shape_r9 : List SO := [⟨(some 2), .assign (.const (.int .i64 2)), none⟩]
def gamut_shape_r10 : List SO := [⟨(some 2), .assign (.const (.int .i64 0)), none⟩]
def gamut_shape_c : SF := ⟨28, (.seq (.reg gamut_shape_r0)
  (.seq (.seq (.reg gamut_shape_r1)
  (.cond (.tmp (9 : Nat)) (.seq (.reg gamut_shape_r2)
  .ret) .skip))
  (.seq (.reg gamut_shape_r3)
  (.seq (.seq (.reg gamut_shape_r4)
  (.block 0 (.loop (.seq (.reg gamut_shape_r5)
  (.seq (.cond (.tmp (16 : Nat)) .skip (.exit 0))
  (.seq (.block 1 (.reg gamut_shape_r6))
  (.reg gamut_shape_r7)))))))
  (.seq (.seq (.reg gamut_shape_r8)
  (.cond (.tmp (27 : Nat)) (.seq (.reg gamut_shape_r9)
  .ret) .skip))
  (.seq (.reg gamut_shape_r10)
  .ret)))))), [.tmp 2]⟩
theorem gamut_shape_s : slimF Try.prog 101 = some gamut_shape_c := by kernel_rfl
/-- printworks/gamut.Quick$1 -/
def gamut_Quick_1_r0 : List SO := [⟨(some 6), .box 161 (.tmp (0 : Nat)), none⟩,
  ⟨(some 8), .assign (.const (.bool false)), none⟩]
def gamut_Quick_1_r1 : List SO := [⟨(some 17), .load 161 (.tmp (6 : Nat)), none⟩,
  ⟨(some 18), .move (.tmp (1 : Nat)), none⟩,
  ⟨(some 19), .load 43 (.tmp (2 : Nat)), none⟩,
  ⟨(some 20), .call ⟨(.value (.func (97 : Nat))), #[(.tmp (19 : Nat))], #[43]⟩, none⟩,
  ⟨(some 21), .call ⟨(.value (.func (96 : Nat))), #[(.tmp (17 : Nat)), (.tmp (18 : Nat)), (.tmp (20 : Nat))], #[161, 3, 160]⟩, none⟩,
  ⟨(some 16), .move (.tmp (21 : Nat)), none⟩,
  ⟨(some 22), .extract (.tmp (16 : Nat)) 0, none⟩,
  ⟨(some 23), .extract (.tmp (16 : Nat)) 1, none⟩,
  ⟨(some 9), .alloc 150, none⟩,
  ⟨none, .store 150 (.tmp (9 : Nat)) (.tmp (22 : Nat)), none⟩,
  ⟨(some 10), .assign (.tmp (23 : Nat)), none⟩]
def gamut_Quick_1_a1 : List (List Nat) := [[], [], [], [2], [0, 1, 3, 3], [4], [5], [5], [], [8, 6, 4, 0, 1, 2, 3, 4, 5, 6, 8], [7, 9, 0, 1, 2, 3, 4, 5, 6, 7, 8, 9]]
def gamut_Quick_1_r2 : List SO := [⟨(some 25), .load 161 (.tmp (6 : Nat)), none⟩,
  ⟨(some 26), .move (.tmp (1 : Nat)), none⟩,
  ⟨(some 27), .load 43 (.tmp (3 : Nat)), none⟩,
  ⟨(some 28), .call ⟨(.value (.func (97 : Nat))), #[(.tmp (27 : Nat))], #[43]⟩, none⟩,
  ⟨(some 29), .call ⟨(.value (.func (96 : Nat))), #[(.tmp (25 : Nat)), (.tmp (26 : Nat)), (.tmp (28 : Nat))], #[161, 3, 160]⟩, none⟩,
  ⟨(some 24), .move (.tmp (29 : Nat)), none⟩,
  ⟨(some 30), .extract (.tmp (24 : Nat)) 0, none⟩,
  ⟨(some 31), .extract (.tmp (24 : Nat)) 1, none⟩,
  ⟨(some 11), .alloc 150, none⟩,
  ⟨none, .store 150 (.tmp (11 : Nat)) (.tmp (30 : Nat)), none⟩,
  ⟨(some 12), .assign (.tmp (31 : Nat)), none⟩]
def gamut_Quick_1_a2 : List (List Nat) := [[], [], [], [2], [0, 1, 3, 3], [4], [5], [5], [], [8, 6, 4, 0, 1, 2, 3, 4, 5, 6, 8], [7, 9, 0, 1, 2, 3, 4, 5, 6, 7, 8, 9]]
def gamut_Quick_1_r3 : List SO := [⟨(some 13), .assign (.const (.int .i64 0)), none⟩,
  ⟨(some 14), .assign (.const (.int .i64 256)), none⟩]
def gamut_Quick_1_r4 : List SO := [⟨(some 32), .move (.const (.int .i64 0)), none⟩]
def gamut_Quick_1_r5 : List SO := [⟨(some 33), .binOp .lss 3 (.tmp (32 : Nat)) (.const (.int .i64 4)) 3, none⟩]
def gamut_Quick_1_r6 : List SO := [⟨(some 34), .move (.tmp (32 : Nat)), none⟩,
  ⟨(some 15), .assign (.tmp (34 : Nat)), none⟩]
def gamut_Quick_1_r7 : List SO := [⟨(some 36), .move (.tmp (15 : Nat)), none⟩,
  ⟨(some 37), .indexAddr 150 (.tmp (9 : Nat)) (.tmp (36 : Nat)), none⟩,
  ⟨(some 38), .load 3 (.tmp (37 : Nat)), none⟩,
  ⟨(some 39), .move (.tmp (15 : Nat)), none⟩,
  ⟨(some 40), .indexAddr 150 (.tmp (11 : Nat)) (.tmp (39 : Nat)), none⟩,
  ⟨(some 41), .load 3 (.tmp (40 : Nat)), none⟩,
  ⟨(some 42), .move (.tmp (13 : Nat)), none⟩,
  ⟨(some 43), .move (.tmp (14 : Nat)), none⟩,
  ⟨(some 44), .call ⟨(.value (.func (98 : Nat))), #[(.tmp (38 : Nat)), (.tmp (41 : Nat)), (.tmp (42 : Nat)), (.tmp (43 : Nat))], #[3, 3, 3, 3]⟩, none⟩,
  ⟨(some 35), .move (.tmp (44 : Nat)), none⟩,
  ⟨(some 45), .extract (.tmp (35 : Nat)) 0, none⟩,
  ⟨(some 46), .extract (.tmp (35 : Nat)) 1, none⟩,
  ⟨(some 13), .assign (.tmp (45 : Nat)), none⟩,
  ⟨(some 14), .assign (.tmp (46 : Nat)), none⟩]
def gamut_Quick_1_a7 : List (List Nat) := [[], [0], [1], [], [3], [4], [], [], [2, 5, 6, 7], [8], [9], [9], [10, 8, 0, 1, 2, 3, 4, 5, 6, 7, 8, 9, 10], [11, 12, 0, 1, 2, 3, 4, 5, 6, 7, 8, 9, 10, 11, 12]]
def gamut_Quick_1_r8 : List SO := [⟨(some 47), .binOp .add 3 (.tmp (32 : Nat)) (.const (.int .i64 1)) 3, none⟩,
  ⟨(some 32), .move (.tmp (47 : Nat)), none⟩]
def gamut_Quick_1_r9 : List SO := [⟨(some 48), .move (.tmp (13 : Nat)), none⟩,
  ⟨(some 49), .move (.tmp (14 : Nat)), none⟩,
  ⟨(some 50), .binOp .leq 3 (.tmp (48 : Nat)) (.tmp (49 : Nat)) 3, none⟩]
def gamut_Quick_1_r10 : List SO := [⟨(some 51), .load 4 (.tmp (4 : Nat)), none⟩,
  ⟨(some 52), .move (.tmp (51 : Nat)), none⟩,
  ⟨(some 53), .move (.tmp (13 : Nat)), (some (52, false))⟩,
  ⟨(some 54), .binOp .eql 3 (.tmp (53 : Nat)) (.const (.int .i64 0)) 3, (some (52, false))⟩,
  ⟨(some 55), .pick (.tmp (52 : Nat)) (.const (.bool true)) (.tmp (54 : Nat)), none⟩,
  ⟨none, .store 4 (.tmp (4 : Nat)) (.tmp (55 : Nat)), none⟩]
def gamut_Quick_1_r11 : List SO := [⟨(some 56), .load 3 (.tmp (5 : Nat)), none⟩,
  ⟨(some 57), .move (.tmp (14 : Nat)), none⟩,
  ⟨(some 58), .call ⟨(.builtin .max), #[(.tmp (56 : Nat)), (.tmp (57 : Nat))], #[3, 3]⟩, none⟩,
  ⟨none, .store 3 (.tmp (5 : Nat)) (.tmp (58 : Nat)), none⟩]
def gamut_Quick_1_r12 : List SO := [⟨(some 59), .load 3 (.tmp (5 : Nat)), none⟩,
  ⟨(some 60), .binOp .lss 3 (.tmp (59 : Nat)) (.const (.int .i64 256)) 3, none⟩,
  ⟨(some 61), .move (.tmp (60 : Nat)), none⟩,
  ⟨(some 62), .load 4 (.tmp (4 : Nat)), (some (61, false))⟩,
  ⟨(some 63), .unOp .not 4 (.tmp (62 : Nat)), (some (61, false))⟩,
  ⟨(some 64), .pick (.tmp (61 : Nat)) (.const (.bool true)) (.tmp (63 : Nat)), none⟩,
  ⟨(some 8), .assign (.tmp (64 : Nat)), none⟩]
def gamut_Quick_1_c : SF := ⟨65, (.seq (.reg gamut_Quick_1_r0)
  (.seq (.regd gamut_Quick_1_r1 gamut_Quick_1_a1)
  (.seq (.regd gamut_Quick_1_r2 gamut_Quick_1_a2)
  (.seq (.reg gamut_Quick_1_r3)
  (.seq (.seq (.reg gamut_Quick_1_r4)
  (.block 0 (.loop (.seq (.reg gamut_Quick_1_r5)
  (.seq (.cond (.tmp (33 : Nat)) .skip (.exit 0))
  (.seq (.block 1 (.seq (.reg gamut_Quick_1_r6)
  (.regd gamut_Quick_1_r7 gamut_Quick_1_a7)))
  (.reg gamut_Quick_1_r8)))))))
  (.seq (.seq (.reg gamut_Quick_1_r9)
  (.cond (.tmp (50 : Nat)) (.seq (.reg gamut_Quick_1_r10)
  (.reg gamut_Quick_1_r11)) .skip))
  (.seq (.reg gamut_Quick_1_r12)
  .ret))))))), [.tmp 8]⟩
theorem gamut_Quick_1_s : slimF Try.prog 95 = some gamut_Quick_1_c := by kernel_rfl
/-- printworks/gamut.tetrahedra -/
def gamut_tetrahedra_r0 : List SO := [⟨(some 2), .box 82 (.tmp (0 : Nat)), none⟩,
  ⟨(some 3), .box 167 (.tmp (1 : Nat)), none⟩]
def gamut_tetrahedra_r1 : List SO := [⟨(some 4), .load 82 (.tmp (2 : Nat)), none⟩,
  ⟨(some 5), .makeFunc (.func (103 : Nat)) #[] #[(.tmp (2 : Nat)), (.tmp (3 : Nat))], none⟩,
  ⟨(some 6), .call ⟨(.value (.func (102 : Nat))), #[(.tmp (4 : Nat)), (.tmp (5 : Nat))], #[82, 176]⟩, none⟩]
def gamut_tetrahedra_c : SF := ⟨7, (.seq (.reg gamut_tetrahedra_r0)
  (.reg gamut_tetrahedra_r1)), []⟩
theorem gamut_tetrahedra_s : slimF Try.prog 94 = some gamut_tetrahedra_c := by kernel_rfl
/-- printworks/gamut.of -/
def gamut_of_r0 : List SO := [⟨(some 1), .box 43 (.tmp (0 : Nat)), none⟩,
  ⟨(some 2), .alloc 160, none⟩]
def gamut_of_r1 : List SO := [⟨(some 3), .fieldAddr 43 (.tmp (1 : Nat)) 0, none⟩,
  ⟨(some 4), .load 3 (.tmp (3 : Nat)), none⟩,
  ⟨(some 5), .fieldAddr 43 (.tmp (1 : Nat)) 1, none⟩,
  ⟨(some 6), .load 3 (.tmp (5 : Nat)), none⟩,
  ⟨(some 7), .fieldAddr 43 (.tmp (1 : Nat)) 2, none⟩,
  ⟨(some 8), .load 3 (.tmp (7 : Nat)), none⟩,
  ⟨(some 9), .build 160 #[(0, (.tmp (4 : Nat))), (1, (.tmp (6 : Nat))), (2, (.tmp (8 : Nat)))], none⟩,
  ⟨none, .store 160 (.tmp (2 : Nat)) (.tmp (9 : Nat)), none⟩]
def gamut_of_c : SF := ⟨10, (.seq (.reg gamut_of_r0)
  (.seq (.reg gamut_of_r1)
  .ret)), [.cell 2 160]⟩
theorem gamut_of_s : slimF Try.prog 97 = some gamut_of_c := by kernel_rfl
/-- printworks/gamut.weights -/
def gamut_weights_r0 : List SO := [⟨(some 3), .box 161 (.tmp (0 : Nat)), none⟩,
  ⟨(some 5), .box 160 (.tmp (2 : Nat)), none⟩,
  ⟨(some 6), .alloc 150, none⟩,
  ⟨(some 7), .assign (.const (.int .i64 0)), none⟩]
def gamut_weights_r1 : List SO := [⟨(some 14), .load 160 (.tmp (5 : Nat)), none⟩,
  ⟨(some 15), .indexAddr 161 (.tmp (3 : Nat)) (.const (.int .i64 0)), none⟩,
  ⟨(some 16), .load 160 (.tmp (15 : Nat)), none⟩,
  ⟨(some 17), .call ⟨(.value (.func (105 : Nat))), #[(.tmp (14 : Nat)), (.tmp (16 : Nat))], #[160, 160]⟩, none⟩,
  ⟨(some 18), .indexAddr 161 (.tmp (3 : Nat)) (.const (.int .i64 1)), none⟩,
  ⟨(some 19), .load 160 (.tmp (18 : Nat)), none⟩,
  ⟨(some 20), .indexAddr 161 (.tmp (3 : Nat)) (.const (.int .i64 0)), none⟩,
  ⟨(some 21), .load 160 (.tmp (20 : Nat)), none⟩,
  ⟨(some 22), .call ⟨(.value (.func (105 : Nat))), #[(.tmp (19 : Nat)), (.tmp (21 : Nat))], #[160, 160]⟩, none⟩,
  ⟨(some 23), .indexAddr 161 (.tmp (3 : Nat)) (.const (.int .i64 2)), none⟩,
  ⟨(some 24), .load 160 (.tmp (23 : Nat)), none⟩,
  ⟨(some 25), .indexAddr 161 (.tmp (3 : Nat)) (.const (.int .i64 0)), none⟩,
  ⟨(some 26), .load 160 (.tmp (25 : Nat)), none⟩,
  ⟨(some 27), .call ⟨(.value (.func (105 : Nat))), #[(.tmp (24 : Nat)), (.tmp (26 : Nat))], #[160, 160]⟩, none⟩,
  ⟨(some 28), .indexAddr 161 (.tmp (3 : Nat)) (.const (.int .i64 3)), none⟩,
  ⟨(some 29), .load 160 (.tmp (28 : Nat)), none⟩,
  ⟨(some 30), .indexAddr 161 (.tmp (3 : Nat)) (.const (.int .i64 0)), none⟩,
  ⟨(some 31), .load 160 (.tmp (30 : Nat)), none⟩,
  ⟨(some 32), .call ⟨(.value (.func (105 : Nat))), #[(.tmp (29 : Nat)), (.tmp (31 : Nat))], #[160, 160]⟩, none⟩,
  ⟨(some 8), .alloc 160, none⟩,
  ⟨(some 9), .alloc 160, none⟩,
  ⟨(some 10), .alloc 160, none⟩,
  ⟨(some 11), .alloc 160, none⟩,
  ⟨none, .store 160 (.tmp (8 : Nat)) (.tmp (17 : Nat)), none⟩,
  ⟨none, .store 160 (.tmp (9 : Nat)) (.tmp (22 : Nat)), none⟩,
  ⟨none, .store 160 (.tmp (10 : Nat)) (.tmp (27 : Nat)), none⟩,
  ⟨none, .store 160 (.tmp (11 : Nat)) (.tmp (32 : Nat)), none⟩]
def gamut_weights_a1 : List (List Nat) := [[], [], [1], [0, 2], [], [4], [], [6], [5, 7, 3], [], [9], [], [11], [10, 12, 8], [], [14], [], [16], [15, 17, 13], [], [], [], [], [19, 3, 18, 0, 1, 2, 3, 19, 20, 21, 22], [20, 8, 23, 0, 1, 2, 3, 4, 5, 6, 7, 8, 19, 20, 21, 22, 23], [21, 13, 24, 0, 1, 2, 3, 4, 5, 6, 7, 8, 9, 10, 11, 12, 13, 19, 20, 21, 22, 23, 24], [22, 18, 25, 0, 1, 2, 3, 4, 5, 6, 7, 8, 9, 10, 11, 12, 13, 14, 15, 16, 17, 18, 19, 20, 21, 22, 23, 24, 25]]
def gamut_weights_r2 : List SO := [⟨(some 33), .load 160 (.tmp (8 : Nat)), none⟩,
  ⟨(some 34), .load 160 (.tmp (10 : Nat)), none⟩,
  ⟨(some 35), .load 160 (.tmp (11 : Nat)), none⟩,
  ⟨(some 36), .call ⟨(.value (.func (104 : Nat))), #[(.tmp (33 : Nat)), (.tmp (34 : Nat)), (.tmp (35 : Nat))], #[160, 160, 160]⟩, none⟩,
  ⟨(some 37), .load 160 (.tmp (9 : Nat)), none⟩,
  ⟨(some 38), .load 160 (.tmp (8 : Nat)), none⟩,
  ⟨(some 39), .load 160 (.tmp (11 : Nat)), none⟩,
  ⟨(some 40), .call ⟨(.value (.func (104 : Nat))), #[(.tmp (37 : Nat)), (.tmp (38 : Nat)), (.tmp (39 : Nat))], #[160, 160, 160]⟩, none⟩,
  ⟨(some 41), .load 160 (.tmp (9 : Nat)), none⟩,
  ⟨(some 42), .load 160 (.tmp (10 : Nat)), none⟩,
  ⟨(some 43), .load 160 (.tmp (8 : Nat)), none⟩,
  ⟨(some 44), .call ⟨(.value (.func (104 : Nat))), #[(.tmp (41 : Nat)), (.tmp (42 : Nat)), (.tmp (43 : Nat))], #[160, 160, 160]⟩, none⟩,
  ⟨(some 45), .build 150 #[(0, (.const (.int .i64 0))), (1, (.tmp (36 : Nat))), (2, (.tmp (40 : Nat))), (3, (.tmp (44 : Nat)))], none⟩,
  ⟨(some 12), .alloc 150, none⟩,
  ⟨none, .store 150 (.tmp (12 : Nat)) (.tmp (45 : Nat)), none⟩]
def gamut_weights_a2 : List (List Nat) := [[], [], [], [0, 1, 2], [], [], [], [4, 5, 6, 3], [], [], [], [8, 9, 10, 7], [3, 7, 11], [], [13, 12, 11, 0, 1, 2, 3, 4, 5, 6, 7, 8, 9, 10, 11, 12, 13]]
def gamut_weights_r3 : List SO := [⟨(some 46), .move (.tmp (1 : Nat)), none⟩,
  ⟨(some 47), .indexAddr 150 (.tmp (12 : Nat)) (.const (.int .i64 1)), none⟩,
  ⟨(some 48), .load 3 (.tmp (47 : Nat)), none⟩,
  ⟨(some 49), .binOp .sub 3 (.tmp (46 : Nat)) (.tmp (48 : Nat)) 3, none⟩,
  ⟨(some 50), .indexAddr 150 (.tmp (12 : Nat)) (.const (.int .i64 2)), none⟩,
  ⟨(some 51), .load 3 (.tmp (50 : Nat)), none⟩,
  ⟨(some 52), .binOp .sub 3 (.tmp (49 : Nat)) (.tmp (51 : Nat)) 3, none⟩,
  ⟨(some 53), .indexAddr 150 (.tmp (12 : Nat)) (.const (.int .i64 3)), none⟩,
  ⟨(some 54), .load 3 (.tmp (53 : Nat)), none⟩,
  ⟨(some 55), .binOp .sub 3 (.tmp (52 : Nat)) (.tmp (54 : Nat)) 3, none⟩,
  ⟨(some 56), .indexAddr 150 (.tmp (12 : Nat)) (.const (.int .i64 0)), none⟩,
  ⟨none, .store 3 (.tmp (56 : Nat)) (.tmp (55 : Nat)), none⟩]
def gamut_weights_r4 : List SO := [⟨(some 57), .move (.tmp (1 : Nat)), none⟩,
  ⟨(some 58), .binOp .lss 3 (.tmp (57 : Nat)) (.const (.int .i64 0)) 3, none⟩]
def gamut_weights_r5 : List SO := [⟨(some 59), .move (.const (.int .i64 0)), none⟩]
def gamut_weights_r6 : List SO := [⟨(some 60), .binOp .lss 3 (.tmp (59 : Nat)) (.const (.int .i64 4)) 3, none⟩]
def gamut_weights_r7 : List SO := [⟨(some 61), .move (.tmp (59 : Nat)), none⟩,
  ⟨(some 13), .assign (.tmp (61 : Nat)), none⟩]
def gamut_weights_r8 : List SO := [⟨(some 62), .move (.tmp (13 : Nat)), none⟩,
  ⟨(some 63), .move (.tmp (13 : Nat)), none⟩,
  ⟨(some 64), .indexAddr 150 (.tmp (12 : Nat)) (.tmp (63 : Nat)), none⟩,
  ⟨(some 65), .load 3 (.tmp (64 : Nat)), none⟩,
  ⟨(some 66), .unOp .neg 3 (.tmp (65 : Nat)), none⟩,
  ⟨(some 67), .indexAddr 150 (.tmp (12 : Nat)) (.tmp (62 : Nat)), none⟩,
  ⟨none, .store 3 (.tmp (67 : Nat)) (.tmp (66 : Nat)), none⟩]
def gamut_weights_r9 : List SO := [⟨(some 68), .binOp .add 3 (.tmp (59 : Nat)) (.const (.int .i64 1)) 3, none⟩,
  ⟨(some 59), .move (.tmp (68 : Nat)), none⟩]
def gamut_weights_r10 : List SO := [⟨(some 69), .move (.tmp (1 : Nat)), none⟩,
  ⟨(some 70), .unOp .neg 3 (.tmp (69 : Nat)), none⟩,
  ⟨(some 1), .assign (.tmp (70 : Nat)), none⟩]
def gamut_weights_r11 : List SO := [⟨(some 71), .load 150 (.tmp (12 : Nat)), none⟩,
  ⟨(some 72), .move (.tmp (1 : Nat)), none⟩,
  ⟨none, .store 150 (.tmp (6 : Nat)) (.tmp (71 : Nat)), none⟩,
  ⟨(some 7), .assign (.tmp (72 : Nat)), none⟩]
def gamut_weights_c : SF := ⟨73, (.seq (.reg gamut_weights_r0)
  (.seq (.regd gamut_weights_r1 gamut_weights_a1)
  (.seq (.regd gamut_weights_r2 gamut_weights_a2)
  (.seq (.reg gamut_weights_r3)
  (.seq (.seq (.reg gamut_weights_r4)
  (.cond (.tmp (58 : Nat)) (.seq (.seq (.reg gamut_weights_r5)
  (.block 0 (.loop (.seq (.reg gamut_weights_r6)
  (.seq (.cond (.tmp (60 : Nat)) .skip (.exit 0))
  (.seq (.block 1 (.seq (.reg gamut_weights_r7)
  (.reg gamut_weights_r8)))
  (.reg gamut_weights_r9)))))))
  (.reg gamut_weights_r10)) .skip))
  (.seq (.reg gamut_weights_r11)
  .ret)))))), [.cell 6 150, .tmp 7]⟩
theorem gamut_weights_s : slimF Try.prog 96 = some gamut_weights_c := by kernel_rfl
/-- printworks/gamut.part -/
def gamut_part_r0 : List SO := [⟨(some 8), .assign (.const (.int .i64 0)), none⟩,
  ⟨(some 9), .assign (.const (.int .i64 0)), none⟩]
def gamut_part_r1 : List SO := [⟨(some 11), .move (.tmp (1 : Nat)), none⟩,
  ⟨(some 12), .move (.tmp (0 : Nat)), none⟩,
  ⟨(some 13), .binOp .sub 3 (.tmp (11 : Nat)) (.tmp (12 : Nat)) 3, none⟩,
  ⟨(some 10), .assign (.tmp (13 : Nat)), none⟩]
def gamut_part_r2 : List SO := [⟨(some 15), .move (.tmp (10 : Nat)), none⟩,
  ⟨(some 16), .binOp .gtr 3 (.tmp (15 : Nat)) (.const (.int .i64 0)) 3, none⟩,
  ⟨(some 17), .move (.tmp (16 : Nat)), none⟩,
  ⟨(some 18), .move (.tmp (0 : Nat)), (some (17, true))⟩,
  ⟨(some 19), .binOp .lss 3 (.tmp (18 : Nat)) (.const (.int .i64 0)) 3, (some (17, true))⟩,
  ⟨(some 20), .pick (.tmp (17 : Nat)) (.tmp (19 : Nat)) (.const (.bool false)), none⟩,
  ⟨(some 14), .assign (.tmp (20 : Nat)), none⟩]
def gamut_part_r3 : List SO := [⟨(some 21), .move (.tmp (2 : Nat)), none⟩,
  ⟨(some 22), .move (.tmp (0 : Nat)), none⟩,
  ⟨(some 23), .binOp .mul 3 (.const (.int .i64 (-256))) (.tmp (22 : Nat)) 3, none⟩,
  ⟨(some 24), .move (.tmp (10 : Nat)), none⟩,
  ⟨(some 25), .binOp .add 3 (.tmp (23 : Nat)) (.tmp (24 : Nat)) 3, none⟩,
  ⟨(some 26), .binOp .sub 3 (.tmp (25 : Nat)) (.const (.int .i64 1)) 3, none⟩,
  ⟨(some 27), .move (.tmp (10 : Nat)), none⟩,
  ⟨(some 28), .binOp .quo 3 (.tmp (26 : Nat)) (.tmp (27 : Nat)) 3, none⟩,
  ⟨(some 29), .call ⟨(.builtin .max), #[(.tmp (21 : Nat)), (.tmp (28 : Nat))], #[3, 3]⟩, none⟩,
  ⟨(some 2), .assign (.tmp (29 : Nat)), none⟩]
def gamut_part_r4 : List SO := [⟨(some 31), .move (.tmp (10 : Nat)), none⟩,
  ⟨(some 32), .binOp .lss 3 (.tmp (31 : Nat)) (.const (.int .i64 0)) 3, none⟩,
  ⟨(some 33), .move (.tmp (32 : Nat)), none⟩,
  ⟨(some 34), .move (.tmp (0 : Nat)), (some (33, true))⟩,
  ⟨(some 35), .binOp .geq 3 (.tmp (34 : Nat)) (.const (.int .i64 0)) 3, (some (33, true))⟩,
  ⟨(some 36), .pick (.tmp (33 : Nat)) (.tmp (35 : Nat)) (.const (.bool false)), none⟩,
  ⟨(some 30), .assign (.tmp (36 : Nat)), none⟩]
def gamut_part_r5 : List SO := [⟨(some 37), .move (.tmp (3 : Nat)), none⟩,
  ⟨(some 38), .move (.tmp (0 : Nat)), none⟩,
  ⟨(some 39), .binOp .mul 3 (.const (.int .i64 256)) (.tmp (38 : Nat)) 3, none⟩,
  ⟨(some 40), .move (.tmp (10 : Nat)), none⟩,
  ⟨(some 41), .unOp .neg 3 (.tmp (40 : Nat)), none⟩,
  ⟨(some 42), .binOp .quo 3 (.tmp (39 : Nat)) (.tmp (41 : Nat)) 3, none⟩,
  ⟨(some 43), .call ⟨(.builtin .min), #[(.tmp (37 : Nat)), (.tmp (42 : Nat))], #[3, 3]⟩, none⟩,
  ⟨(some 3), .assign (.tmp (43 : Nat)), none⟩]
def gamut_part_r6 : List SO := [⟨(some 45), .move (.tmp (0 : Nat)), none⟩,
  ⟨(some 46), .binOp .lss 3 (.tmp (45 : Nat)) (.const (.int .i64 0)) 3, none⟩,
  ⟨(some 44), .assign (.tmp (46 : Nat)), none⟩]
def gamut_part_r7 : List SO := [⟨(some 3), .assign (.const (.int .i64 (-1))), none⟩]
def gamut_part_r8 : List SO := [⟨(some 47), .move (.tmp (2 : Nat)), none⟩,
  ⟨(some 48), .move (.tmp (3 : Nat)), none⟩,
  ⟨(some 8), .assign (.tmp (47 : Nat)), none⟩,
  ⟨(some 9), .assign (.tmp (48 : Nat)), none⟩]
def gamut_part_c : SF := ⟨49, (.seq (.reg gamut_part_r0)
  (.seq (.reg gamut_part_r1)
  (.seq (.block 0 (.seq (.reg gamut_part_r2)
  (.cond (.tmp (14 : Nat)) (.reg gamut_part_r3) (.seq (.reg gamut_part_r4)
  (.cond (.tmp (30 : Nat)) (.reg gamut_part_r5) (.seq (.reg gamut_part_r6)
  (.cond (.tmp (44 : Nat)) (.reg gamut_part_r7) .skip)))))))
  (.seq (.reg gamut_part_r8)
  .ret)))), [.tmp 8, .tmp 9]⟩
theorem gamut_part_s : slimF Try.prog 98 = some gamut_part_c := by kernel_rfl
/-- printworks/gamut.tetrahedra$1 -/
def gamut_tetrahedra_1_r0 : List SO := [⟨(some 4), .assign (.const (.bool false)), none⟩]
def gamut_tetrahedra_1_r1 : List SO := [⟨(some 11), .move (.tmp (0 : Nat)), none⟩,
  ⟨(some 12), .call ⟨(.builtin .len), #[(.tmp (11 : Nat))], #[23]⟩, none⟩,
  ⟨(some 13), .move (.const (.int .i64 0)), none⟩]
def gamut_tetrahedra_1_r2 : List SO := [⟨(some 14), .binOp .lss 3 (.tmp (13 : Nat)) (.tmp (12 : Nat)) 3, none⟩]
def gamut_tetrahedra_1_r3 : List SO := [⟨(some 15), .move (.tmp (13 : Nat)), none⟩,
  ⟨(some 5), .assign (.tmp (15 : Nat)), none⟩]
def gamut_tetrahedra_1_r4 : List SO := [⟨(some 16), .move (.tmp (0 : Nat)), none⟩,
  ⟨(some 17), .call ⟨(.builtin .len), #[(.tmp (16 : Nat))], #[23]⟩, none⟩,
  ⟨(some 18), .binOp .eql 3 (.tmp (17 : Nat)) (.const (.int .i64 4)) 3, none⟩,
  ⟨(some 19), .move (.tmp (18 : Nat)), none⟩,
  ⟨(some 20), .move (.tmp (5 : Nat)), (some (19, true))⟩,
  ⟨(some 21), .binOp .gtr 3 (.tmp (20 : Nat)) (.const (.int .i64 0)) 3, (some (19, true))⟩,
  ⟨(some 22), .pick (.tmp (19 : Nat)) (.tmp (21 : Nat)) (.const (.bool false)), none⟩]
def gamut_tetrahedra_1_r5 : List SO := [⟨(some 6), .alloc 161, none⟩]
def gamut_tetrahedra_1_r6 : List SO := [⟨(some 7), .assign (.const (.int .i64 0)), none⟩]
def gamut_tetrahedra_1_r7 : List SO := [⟨(some 23), .move (.tmp (0 : Nat)), none⟩,
  ⟨(some 24), .call ⟨(.builtin .len), #[(.tmp (23 : Nat))], #[23]⟩, none⟩,
  ⟨(some 25), .move (.const (.int .i64 0)), none⟩]
def gamut_tetrahedra_1_r8 : List SO := [⟨(some 26), .binOp .lss 3 (.tmp (25 : Nat)) (.tmp (24 : Nat)) 3, none⟩]
def gamut_tetrahedra_1_r9 : List SO := [⟨(some 27), .move (.tmp (25 : Nat)), none⟩,
  ⟨(some 28), .indexAddr 23 (.tmp (23 : Nat)) (.tmp (25 : Nat)), none⟩,
  ⟨(some 29), .load 3 (.tmp (28 : Nat)), none⟩,
  ⟨(some 8), .assign (.tmp (27 : Nat)), none⟩,
  ⟨(some 9), .assign (.tmp (29 : Nat)), none⟩]
def gamut_tetrahedra_1_r10 : List SO := [⟨(some 30), .move (.tmp (0 : Nat)), none⟩,
  ⟨(some 31), .call ⟨(.builtin .len), #[(.tmp (30 : Nat))], #[23]⟩, none⟩,
  ⟨(some 32), .binOp .eql 3 (.tmp (31 : Nat)) (.const (.int .i64 5)) 3, none⟩,
  ⟨(some 33), .move (.tmp (32 : Nat)), none⟩,
  ⟨(some 34), .move (.tmp (8 : Nat)), (some (33, true))⟩,
  ⟨(some 35), .move (.tmp (5 : Nat)), (some (33, true))⟩,
  ⟨(some 36), .binOp .eql 3 (.tmp (34 : Nat)) (.tmp (35 : Nat)) 3, (some (33, true))⟩,
  ⟨(some 37), .pick (.tmp (33 : Nat)) (.tmp (36 : Nat)) (.const (.bool false)), none⟩]
def gamut_tetrahedra_1_r11 : List SO := [⟨(some 38), .move (.tmp (7 : Nat)), none⟩,
  ⟨(some 39), .load 82 (.tmp (1 : Nat)), none⟩,
  ⟨(some 40), .nilCheck (.tmp (39 : Nat)), none⟩,
  ⟨(some 41), .fieldAddr 25 (.tmp (40 : Nat)) 3, none⟩,
  ⟨(some 42), .load 23 (.tmp (41 : Nat)), none⟩,
  ⟨(some 43), .move (.tmp (9 : Nat)), none⟩,
  ⟨(some 44), .binOp .mul 3 (.const (.int .i64 3)) (.tmp (43 : Nat)) 3, none⟩,
  ⟨(some 45), .move (.tmp (9 : Nat)), none⟩,
  ⟨(some 46), .binOp .mul 3 (.const (.int .i64 3)) (.tmp (45 : Nat)) 3, none⟩,
  ⟨(some 47), .binOp .add 3 (.tmp (46 : Nat)) (.const (.int .i64 3)) 3, none⟩,
  ⟨(some 48), .slice 23 (.tmp (42 : Nat)) (some (.tmp (44 : Nat))) (some (.tmp (47 : Nat))) none, none⟩,
  ⟨(some 49), .sliceToArrayPointer 160 (.tmp (48 : Nat)), none⟩,
  ⟨(some 50), .load 160 (.tmp (49 : Nat)), none⟩,
  ⟨(some 51), .indexAddr 161 (.tmp (6 : Nat)) (.tmp (38 : Nat)), none⟩,
  ⟨none, .store 160 (.tmp (51 : Nat)) (.tmp (50 : Nat)), none⟩]
def gamut_tetrahedra_1_r12 : List SO := [⟨(some 52), .move (.tmp (7 : Nat)), none⟩,
  ⟨(some 53), .binOp .add 3 (.tmp (52 : Nat)) (.const (.int .i64 1)) 3, none⟩,
  ⟨(some 7), .assign (.tmp (53 : Nat)), none⟩]
def gamut_tetrahedra_1_r13 : List SO := [⟨(some 54), .binOp .add 3 (.tmp (25 : Nat)) (.const (.int .i64 1)) 3, none⟩,
  ⟨(some 25), .move (.tmp (54 : Nat)), none⟩]
def gamut_tetrahedra_1_r14 : List SO := [⟨(some 55), .indexAddr 161 (.tmp (6 : Nat)) (.const (.int .i64 1)), none⟩,
  ⟨(some 56), .load 160 (.tmp (55 : Nat)), none⟩,
  ⟨(some 57), .indexAddr 161 (.tmp (6 : Nat)) (.const (.int .i64 0)), none⟩,
  ⟨(some 58), .load 160 (.tmp (57 : Nat)), none⟩,
  ⟨(some 59), .call ⟨(.value (.func (105 : Nat))), #[(.tmp (56 : Nat)), (.tmp (58 : Nat))], #[160, 160]⟩, none⟩,
  ⟨(some 60), .indexAddr 161 (.tmp (6 : Nat)) (.const (.int .i64 2)), none⟩,
  ⟨(some 61), .load 160 (.tmp (60 : Nat)), none⟩,
  ⟨(some 62), .indexAddr 161 (.tmp (6 : Nat)) (.const (.int .i64 0)), none⟩,
  ⟨(some 63), .load 160 (.tmp (62 : Nat)), none⟩,
  ⟨(some 64), .call ⟨(.value (.func (105 : Nat))), #[(.tmp (61 : Nat)), (.tmp (63 : Nat))], #[160, 160]⟩, none⟩,
  ⟨(some 65), .indexAddr 161 (.tmp (6 : Nat)) (.const (.int .i64 3)), none⟩,
  ⟨(some 66), .load 160 (.tmp (65 : Nat)), none⟩,
  ⟨(some 67), .indexAddr 161 (.tmp (6 : Nat)) (.const (.int .i64 0)), none⟩,
  ⟨(some 68), .load 160 (.tmp (67 : Nat)), none⟩,
  ⟨(some 69), .call ⟨(.value (.func (105 : Nat))), #[(.tmp (66 : Nat)), (.tmp (68 : Nat))], #[160, 160]⟩, none⟩,
  ⟨(some 70), .call ⟨(.value (.func (104 : Nat))), #[(.tmp (59 : Nat)), (.tmp (64 : Nat)), (.tmp (69 : Nat))], #[160, 160, 160]⟩, none⟩,
  ⟨(some 10), .assign (.tmp (70 : Nat)), none⟩]
def gamut_tetrahedra_1_a14 : List (List Nat) := [[], [0], [], [2], [1, 3], [], [5], [], [7], [6, 8, 4], [], [10], [], [12], [11, 13, 9], [4, 9, 14, 14], [15, 15, 0, 1, 2, 3, 4, 5, 6, 7, 8, 9, 10, 11, 12, 13, 14, 15]]
def gamut_tetrahedra_1_r15 : List SO := [⟨(some 71), .move (.tmp (10 : Nat)), none⟩,
  ⟨(some 72), .binOp .neq 3 (.tmp (71 : Nat)) (.const (.int .i64 0)) 3, none⟩,
  ⟨(some 73), .move (.tmp (72 : Nat)), none⟩,
  ⟨(some 74), .load 167 (.tmp (2 : Nat)), (some (73, true))⟩,
  ⟨(some 75), .load 161 (.tmp (6 : Nat)), (some (73, true))⟩,
  ⟨(some 76), .move (.tmp (10 : Nat)), (some (73, true))⟩,
  ⟨(some 77), .call ⟨(.value (.tmp (74 : Nat))), #[(.tmp (75 : Nat)), (.tmp (76 : Nat))], #[161, 3]⟩, (some (73, true))⟩,
  ⟨(some 78), .unOp .not 4 (.tmp (77 : Nat)), (some (73, true))⟩,
  ⟨(some 79), .pick (.tmp (73 : Nat)) (.tmp (78 : Nat)) (.const (.bool false)), none⟩]
def gamut_tetrahedra_1_r16 : List SO := [⟨(some 4), .assign (.const (.bool false)), none⟩]
def gamut_tetrahedra_1_r17 : List SO := [⟨(some 80), .binOp .add 3 (.tmp (13 : Nat)) (.const (.int .i64 1)) 3, none⟩,
  ⟨(some 13), .move (.tmp (80 : Nat)), none⟩]
def gamut_tetrahedra_1_r18 : List SO := [⟨(some 4), .assign (.const (.bool true)), none⟩]
def gamut_tetrahedra_1_c : SF := ⟨81, (.seq (.reg gamut_tetrahedra_1_r0)
  (.seq (.seq (.reg gamut_tetrahedra_1_r1)
  (.block 0 (.loop (.seq (.reg gamut_tetrahedra_1_r2)
  (.seq (.cond (.tmp (14 : Nat)) .skip (.exit 0))
  (.seq (.block 1 (.seq (.reg gamut_tetrahedra_1_r3)
  (.seq (.seq (.reg gamut_tetrahedra_1_r4)
  (.cond (.tmp (22 : Nat)) (.exit 0) .skip))
  (.seq (.reg gamut_tetrahedra_1_r5)
  (.seq (.reg gamut_tetrahedra_1_r6)
  (.seq (.seq (.reg gamut_tetrahedra_1_r7)
  (.block 2 (.loop (.seq (.reg gamut_tetrahedra_1_r8)
  (.seq (.cond (.tmp (26 : Nat)) .skip (.exit 2))
  (.seq (.block 3 (.seq (.reg gamut_tetrahedra_1_r9)
  (.seq (.seq (.reg gamut_tetrahedra_1_r10)
  (.cond (.tmp (37 : Nat)) (.exit 3) .skip))
  (.seq (.reg gamut_tetrahedra_1_r11)
  (.reg gamut_tetrahedra_1_r12)))))
  (.reg gamut_tetrahedra_1_r13)))))))
  (.seq (.regd gamut_tetrahedra_1_r14 gamut_tetrahedra_1_a14)
  (.seq (.reg gamut_tetrahedra_1_r15)
  (.cond (.tmp (79 : Nat)) (.seq (.reg gamut_tetrahedra_1_r16)
  .ret) .skip)))))))))
  (.reg gamut_tetrahedra_1_r17)))))))
  (.seq (.reg gamut_tetrahedra_1_r18)
  .ret))), [.tmp 4]⟩
theorem gamut_tetrahedra_1_s : slimF Try.prog 103 = some gamut_tetrahedra_1_c := by kernel_rfl
/-- printworks/gamut.corners -/
def gamut_corners_r0 : List SO := [⟨(some 2), .box 82 (.tmp (0 : Nat)), none⟩,
  ⟨(some 3), .box 176 (.tmp (1 : Nat)), none⟩]
def gamut_corners_r1 : List SO := [⟨(some 13), .load 82 (.tmp (2 : Nat)), none⟩,
  ⟨(some 14), .nilCheck (.tmp (13 : Nat)), none⟩,
  ⟨(some 15), .fieldAddr 25 (.tmp (14 : Nat)) 0, none⟩,
  ⟨(some 16), .load 3 (.tmp (15 : Nat)), none⟩,
  ⟨(some 17), .makeSlice 23 (.tmp (16 : Nat)) (.tmp (16 : Nat)), none⟩,
  ⟨(some 4), .alloc 23, none⟩,
  ⟨none, .store 23 (.tmp (4 : Nat)) (.tmp (17 : Nat)), none⟩]
def gamut_corners_r2 : List SO := [⟨(some 5), .assign (.const (.int .i64 1)), none⟩]
def gamut_corners_r3 : List SO := [⟨(some 18), .load 82 (.tmp (2 : Nat)), none⟩,
  ⟨(some 19), .nilCheck (.tmp (18 : Nat)), none⟩,
  ⟨(some 20), .fieldAddr 25 (.tmp (19 : Nat)) 0, none⟩,
  ⟨(some 21), .load 3 (.tmp (20 : Nat)), none⟩,
  ⟨(some 22), .binOp .sub 3 (.tmp (21 : Nat)) (.const (.int .i64 1)) 3, none⟩,
  ⟨(some 6), .assign (.tmp (22 : Nat)), none⟩]
def gamut_corners_r4 : List SO := [⟨(some 23), .move (.tmp (6 : Nat)), none⟩,
  ⟨(some 24), .binOp .geq 3 (.tmp (23 : Nat)) (.const (.int .i64 0)) 3, none⟩]
def gamut_corners_r5 : List SO := [⟨(some 27), .load 23 (.tmp (4 : Nat)), none⟩,
  ⟨(some 28), .move (.tmp (6 : Nat)), none⟩,
  ⟨(some 29), .indexAddr 23 (.tmp (27 : Nat)) (.tmp (28 : Nat)), none⟩,
  ⟨none, .store 3 (.tmp (29 : Nat)) (.const (.int .i64 1)), none⟩]
def gamut_corners_r6 : List SO := [⟨(some 30), .move (.tmp (6 : Nat)), none⟩,
  ⟨(some 31), .load 82 (.tmp (2 : Nat)), none⟩,
  ⟨(some 32), .nilCheck (.tmp (31 : Nat)), none⟩,
  ⟨(some 33), .fieldAddr 25 (.tmp (32 : Nat)) 0, none⟩,
  ⟨(some 34), .load 3 (.tmp (33 : Nat)), none⟩,
  ⟨(some 35), .binOp .sub 3 (.tmp (34 : Nat)) (.const (.int .i64 1)) 3, none⟩,
  ⟨(some 36), .binOp .lss 3 (.tmp (30 : Nat)) (.tmp (35 : Nat)) 3, none⟩]
def gamut_corners_r7 : List SO := [⟨(some 37), .load 23 (.tmp (4 : Nat)), none⟩,
  ⟨(some 38), .move (.tmp (6 : Nat)), none⟩,
  ⟨(some 39), .load 23 (.tmp (4 : Nat)), none⟩,
  ⟨(some 40), .move (.tmp (6 : Nat)), none⟩,
  ⟨(some 41), .binOp .add 3 (.tmp (40 : Nat)) (.const (.int .i64 1)) 3, none⟩,
  ⟨(some 42), .indexAddr 23 (.tmp (39 : Nat)) (.tmp (41 : Nat)), none⟩,
  ⟨(some 43), .load 3 (.tmp (42 : Nat)), none⟩,
  ⟨(some 44), .load 82 (.tmp (2 : Nat)), none⟩,
  ⟨(some 45), .nilCheck (.tmp (44 : Nat)), none⟩,
  ⟨(some 46), .fieldAddr 25 (.tmp (45 : Nat)) 2, none⟩,
  ⟨(some 47), .load 3 (.tmp (46 : Nat)), none⟩,
  ⟨(some 48), .binOp .mul 3 (.tmp (43 : Nat)) (.tmp (47 : Nat)) 3, none⟩,
  ⟨(some 49), .indexAddr 23 (.tmp (37 : Nat)) (.tmp (38 : Nat)), none⟩,
  ⟨none, .store 3 (.tmp (49 : Nat)) (.tmp (48 : Nat)), none⟩]
def gamut_corners_a7 : List (List Nat) := [[], [], [], [], [3], [2, 4], [5], [], [7], [8], [9], [6, 10], [0, 1, 0, 1, 2, 3, 4, 5, 6, 7, 8, 9, 10, 11], [12, 11, 0, 1, 2, 3, 4, 5, 6, 7, 8, 9, 10, 11]]
def gamut_corners_r8 : List SO := [⟨(some 50), .move (.tmp (5 : Nat)), none⟩,
  ⟨(some 51), .load 82 (.tmp (2 : Nat)), none⟩,
  ⟨(some 52), .nilCheck (.tmp (51 : Nat)), none⟩,
  ⟨(some 53), .fieldAddr 25 (.tmp (52 : Nat)) 2, none⟩,
  ⟨(some 54), .load 3 (.tmp (53 : Nat)), none⟩,
  ⟨(some 55), .binOp .sub 3 (.tmp (54 : Nat)) (.const (.int .i64 1)) 3, none⟩,
  ⟨(some 56), .binOp .mul 3 (.tmp (50 : Nat)) (.tmp (55 : Nat)) 3, none⟩,
  ⟨(some 5), .assign (.tmp (56 : Nat)), none⟩]
def gamut_corners_r9 : List SO := [⟨(some 25), .move (.tmp (6 : Nat)), none⟩,
  ⟨(some 26), .binOp .sub 3 (.tmp (25 : Nat)) (.const (.int .i64 1)) 3, none⟩,
  ⟨(some 6), .assign (.tmp (26 : Nat)), none⟩]
def gamut_corners_r10 : List SO := [⟨(some 57), .load 82 (.tmp (2 : Nat)), none⟩,
  ⟨(some 58), .nilCheck (.tmp (57 : Nat)), none⟩,
  ⟨(some 59), .fieldAddr 25 (.tmp (58 : Nat)) 0, none⟩,
  ⟨(some 60), .load 3 (.tmp (59 : Nat)), none⟩,
  ⟨(some 61), .binOp .add 3 (.tmp (60 : Nat)) (.const (.int .i64 1)) 3, none⟩,
  ⟨(some 62), .makeSlice 23 (.tmp (61 : Nat)) (.tmp (61 : Nat)), none⟩,
  ⟨(some 7), .alloc 23, none⟩,
  ⟨none, .store 23 (.tmp (7 : Nat)) (.tmp (62 : Nat)), none⟩]
def gamut_corners_r11 : List SO := [⟨(some 8), .alloc 177, none⟩]
def gamut_corners_r12 : List SO := [⟨(some 63), .makeFunc (.func (109 : Nat)) #[] #[(.tmp (2 : Nat)), (.tmp (3 : Nat)), (.tmp (7 : Nat)), (.tmp (4 : Nat)), (.tmp (8 : Nat))], none⟩,
  ⟨none, .store 177 (.tmp (8 : Nat)) (.tmp (63 : Nat)), none⟩]
def gamut_corners_r13 : List SO := [⟨(some 64), .move (.tmp (5 : Nat)), none⟩,
  ⟨(some 65), .move (.const (.int .i64 0)), none⟩]
def gamut_corners_r14 : List SO := [⟨(some 66), .binOp .lss 3 (.tmp (65 : Nat)) (.tmp (64 : Nat)) 3, none⟩]
def gamut_corners_r15 : List SO := [⟨(some 67), .move (.tmp (65 : Nat)), none⟩,
  ⟨(some 9), .assign (.tmp (67 : Nat)), none⟩]
def gamut_corners_r16 : List SO := [⟨(some 68), .move (.tmp (9 : Nat)), none⟩,
  ⟨(some 10), .assign (.const (.int .i64 0)), none⟩,
  ⟨(some 11), .assign (.tmp (68 : Nat)), none⟩]
def gamut_corners_r17 : List SO := [⟨(some 69), .load 82 (.tmp (2 : Nat)), none⟩,
  ⟨(some 70), .nilCheck (.tmp (69 : Nat)), none⟩,
  ⟨(some 71), .fieldAddr 25 (.tmp (70 : Nat)) 0, none⟩,
  ⟨(some 72), .load 3 (.tmp (71 : Nat)), none⟩,
  ⟨(some 73), .binOp .sub 3 (.tmp (72 : Nat)) (.const (.int .i64 1)) 3, none⟩,
  ⟨(some 12), .assign (.tmp (73 : Nat)), none⟩]
def gamut_corners_r18 : List SO := [⟨(some 74), .move (.tmp (12 : Nat)), none⟩,
  ⟨(some 75), .binOp .geq 3 (.tmp (74 : Nat)) (.const (.int .i64 0)) 3, none⟩]
def gamut_corners_r19 : List SO := [⟨(some 78), .move (.tmp (10 : Nat)), none⟩,
  ⟨(some 79), .move (.tmp (11 : Nat)), none⟩,
  ⟨(some 80), .load 82 (.tmp (2 : Nat)), none⟩,
  ⟨(some 81), .nilCheck (.tmp (80 : Nat)), none⟩,
  ⟨(some 82), .fieldAddr 25 (.tmp (81 : Nat)) 2, none⟩,
  ⟨(some 83), .load 3 (.tmp (82 : Nat)), none⟩,
  ⟨(some 84), .binOp .sub 3 (.tmp (83 : Nat)) (.const (.int .i64 1)) 3, none⟩,
  ⟨(some 85), .binOp .rem 3 (.tmp (79 : Nat)) (.tmp (84 : Nat)) 3, none⟩,
  ⟨(some 86), .load 23 (.tmp (4 : Nat)), none⟩,
  ⟨(some 87), .move (.tmp (12 : Nat)), none⟩,
  ⟨(some 88), .indexAddr 23 (.tmp (86 : Nat)) (.tmp (87 : Nat)), none⟩,
  ⟨(some 89), .load 3 (.tmp (88 : Nat)), none⟩,
  ⟨(some 90), .binOp .mul 3 (.tmp (85 : Nat)) (.tmp (89 : Nat)) 3, none⟩,
  ⟨(some 91), .binOp .add 3 (.tmp (78 : Nat)) (.tmp (90 : Nat)) 3, none⟩,
  ⟨(some 10), .assign (.tmp (91 : Nat)), none⟩]
def gamut_corners_a19 : List (List Nat) := [[], [], [], [2], [3], [4], [5], [1, 6], [], [], [8, 9], [10], [7, 11], [0, 12], [13, 0, 1, 2, 3, 4, 5, 6, 7, 8, 9, 10, 11, 12, 13]]
def gamut_corners_r20 : List SO := [⟨(some 92), .move (.tmp (11 : Nat)), none⟩,
  ⟨(some 93), .load 82 (.tmp (2 : Nat)), none⟩,
  ⟨(some 94), .nilCheck (.tmp (93 : Nat)), none⟩,
  ⟨(some 95), .fieldAddr 25 (.tmp (94 : Nat)) 2, none⟩,
  ⟨(some 96), .load 3 (.tmp (95 : Nat)), none⟩,
  ⟨(some 97), .binOp .sub 3 (.tmp (96 : Nat)) (.const (.int .i64 1)) 3, none⟩,
  ⟨(some 98), .binOp .quo 3 (.tmp (92 : Nat)) (.tmp (97 : Nat)) 3, none⟩,
  ⟨(some 11), .assign (.tmp (98 : Nat)), none⟩]
def gamut_corners_r21 : List SO := [⟨(some 76), .move (.tmp (12 : Nat)), none⟩,
  ⟨(some 77), .binOp .sub 3 (.tmp (76 : Nat)) (.const (.int .i64 1)) 3, none⟩,
  ⟨(some 12), .assign (.tmp (77 : Nat)), none⟩]
def gamut_corners_r22 : List SO := [⟨(some 99), .load 23 (.tmp (7 : Nat)), none⟩,
  ⟨(some 100), .move (.tmp (10 : Nat)), none⟩,
  ⟨(some 101), .indexAddr 23 (.tmp (99 : Nat)) (.const (.int .i64 0)), none⟩,
  ⟨none, .store 3 (.tmp (101 : Nat)) (.tmp (100 : Nat)), none⟩]
def gamut_corners_r23 : List SO := [⟨(some 102), .load 177 (.tmp (8 : Nat)), none⟩,
  ⟨(some 103), .call ⟨(.value (.tmp (102 : Nat))), #[(.const (.int .i64 0)), (.const (.int .i64 0))], #[3, 3]⟩, none⟩,
  ⟨(some 104), .unOp .not 4 (.tmp (103 : Nat)), none⟩]
def gamut_corners_r24 : List SO := [⟨(some 105), .binOp .add 3 (.tmp (65 : Nat)) (.const (.int .i64 1)) 3, none⟩,
  ⟨(some 65), .move (.tmp (105 : Nat)), none⟩]
def gamut_corners_c : SF := ⟨106, (.seq (.reg gamut_corners_r0)
  (.seq (.reg gamut_corners_r1)
  (.seq (.reg gamut_corners_r2)
  (.seq (.seq (.reg gamut_corners_r3)
  (.block 0 (.loop (.seq (.seq (.reg gamut_corners_r4)
  (.cond (.tmp (24 : Nat)) .skip (.exit 0)))
  (.seq (.block 1 (.seq (.seq (.reg gamut_corners_r5)
  (.seq (.reg gamut_corners_r6)
  (.cond (.tmp (36 : Nat)) (.regd gamut_corners_r7 gamut_corners_a7) .skip)))
  (.reg gamut_corners_r8)))
  (.reg gamut_corners_r9))))))
  (.seq (.reg gamut_corners_r10)
  (.seq (.reg gamut_corners_r11)
  (.seq (.reg gamut_corners_r12)
  (.seq (.reg gamut_corners_r13)
  (.block 2 (.loop (.seq (.reg gamut_corners_r14)
  (.seq (.cond (.tmp (66 : Nat)) .skip (.exit 2))
  (.seq (.block 3 (.seq (.reg gamut_corners_r15)
  (.seq (.reg gamut_corners_r16)
  (.seq (.seq (.reg gamut_corners_r17)
  (.block 4 (.loop (.seq (.seq (.reg gamut_corners_r18)
  (.cond (.tmp (75 : Nat)) .skip (.exit 4)))
  (.seq (.block 5 (.seq (.regd gamut_corners_r19 gamut_corners_a19)
  (.reg gamut_corners_r20)))
  (.reg gamut_corners_r21))))))
  (.seq (.reg gamut_corners_r22)
  (.seq (.reg gamut_corners_r23)
  (.cond (.tmp (104 : Nat)) .ret .skip)))))))
  (.reg gamut_corners_r24)))))))))))))), []⟩
theorem gamut_corners_s : slimF Try.prog 102 = some gamut_corners_c := by kernel_rfl
/-- printworks/gamut.minus -/
def gamut_minus_r0 : List SO := [⟨(some 2), .box 160 (.tmp (0 : Nat)), none⟩,
  ⟨(some 3), .box 160 (.tmp (1 : Nat)), none⟩,
  ⟨(some 4), .alloc 160, none⟩]
def gamut_minus_r1 : List SO := [⟨(some 5), .indexAddr 160 (.tmp (2 : Nat)) (.const (.int .i64 0)), none⟩,
  ⟨(some 6), .load 3 (.tmp (5 : Nat)), none⟩,
  ⟨(some 7), .indexAddr 160 (.tmp (3 : Nat)) (.const (.int .i64 0)), none⟩,
  ⟨(some 8), .load 3 (.tmp (7 : Nat)), none⟩,
  ⟨(some 9), .binOp .sub 3 (.tmp (6 : Nat)) (.tmp (8 : Nat)) 3, none⟩,
  ⟨(some 10), .indexAddr 160 (.tmp (2 : Nat)) (.const (.int .i64 1)), none⟩,
  ⟨(some 11), .load 3 (.tmp (10 : Nat)), none⟩,
  ⟨(some 12), .indexAddr 160 (.tmp (3 : Nat)) (.const (.int .i64 1)), none⟩,
  ⟨(some 13), .load 3 (.tmp (12 : Nat)), none⟩,
  ⟨(some 14), .binOp .sub 3 (.tmp (11 : Nat)) (.tmp (13 : Nat)) 3, none⟩,
  ⟨(some 15), .indexAddr 160 (.tmp (2 : Nat)) (.const (.int .i64 2)), none⟩,
  ⟨(some 16), .load 3 (.tmp (15 : Nat)), none⟩,
  ⟨(some 17), .indexAddr 160 (.tmp (3 : Nat)) (.const (.int .i64 2)), none⟩,
  ⟨(some 18), .load 3 (.tmp (17 : Nat)), none⟩,
  ⟨(some 19), .binOp .sub 3 (.tmp (16 : Nat)) (.tmp (18 : Nat)) 3, none⟩,
  ⟨(some 20), .build 160 #[(0, (.tmp (9 : Nat))), (1, (.tmp (14 : Nat))), (2, (.tmp (19 : Nat)))], none⟩,
  ⟨none, .store 160 (.tmp (4 : Nat)) (.tmp (20 : Nat)), none⟩]
def gamut_minus_c : SF := ⟨21, (.seq (.reg gamut_minus_r0)
  (.seq (.reg gamut_minus_r1)
  .ret)), [.cell 4 160]⟩
theorem gamut_minus_s : slimF Try.prog 105 = some gamut_minus_c := by kernel_rfl
/-- printworks/gamut.det -/
def gamut_det_r0 : List SO := [⟨(some 3), .box 160 (.tmp (0 : Nat)), none⟩,
  ⟨(some 4), .box 160 (.tmp (1 : Nat)), none⟩,
  ⟨(some 5), .box 160 (.tmp (2 : Nat)), none⟩,
  ⟨(some 6), .assign (.const (.int .i64 0)), none⟩]
def gamut_det_r1 : List SO := [⟨(some 7), .indexAddr 160 (.tmp (3 : Nat)) (.const (.int .i64 0)), none⟩,
  ⟨(some 8), .load 3 (.tmp (7 : Nat)), none⟩,
  ⟨(some 9), .indexAddr 160 (.tmp (4 : Nat)) (.const (.int .i64 1)), none⟩,
  ⟨(some 10), .load 3 (.tmp (9 : Nat)), none⟩,
  ⟨(some 11), .indexAddr 160 (.tmp (5 : Nat)) (.const (.int .i64 2)), none⟩,
  ⟨(some 12), .load 3 (.tmp (11 : Nat)), none⟩,
  ⟨(some 13), .binOp .mul 3 (.tmp (10 : Nat)) (.tmp (12 : Nat)) 3, none⟩,
  ⟨(some 14), .indexAddr 160 (.tmp (4 : Nat)) (.const (.int .i64 2)), none⟩,
  ⟨(some 15), .load 3 (.tmp (14 : Nat)), none⟩,
  ⟨(some 16), .indexAddr 160 (.tmp (5 : Nat)) (.const (.int .i64 1)), none⟩,
  ⟨(some 17), .load 3 (.tmp (16 : Nat)), none⟩,
  ⟨(some 18), .binOp .mul 3 (.tmp (15 : Nat)) (.tmp (17 : Nat)) 3, none⟩,
  ⟨(some 19), .binOp .sub 3 (.tmp (13 : Nat)) (.tmp (18 : Nat)) 3, none⟩,
  ⟨(some 20), .binOp .mul 3 (.tmp (8 : Nat)) (.tmp (19 : Nat)) 3, none⟩,
  ⟨(some 21), .indexAddr 160 (.tmp (3 : Nat)) (.const (.int .i64 1)), none⟩,
  ⟨(some 22), .load 3 (.tmp (21 : Nat)), none⟩,
  ⟨(some 23), .indexAddr 160 (.tmp (4 : Nat)) (.const (.int .i64 2)), none⟩,
  ⟨(some 24), .load 3 (.tmp (23 : Nat)), none⟩,
  ⟨(some 25), .indexAddr 160 (.tmp (5 : Nat)) (.const (.int .i64 0)), none⟩,
  ⟨(some 26), .load 3 (.tmp (25 : Nat)), none⟩,
  ⟨(some 27), .binOp .mul 3 (.tmp (24 : Nat)) (.tmp (26 : Nat)) 3, none⟩,
  ⟨(some 28), .indexAddr 160 (.tmp (4 : Nat)) (.const (.int .i64 0)), none⟩,
  ⟨(some 29), .load 3 (.tmp (28 : Nat)), none⟩,
  ⟨(some 30), .indexAddr 160 (.tmp (5 : Nat)) (.const (.int .i64 2)), none⟩,
  ⟨(some 31), .load 3 (.tmp (30 : Nat)), none⟩,
  ⟨(some 32), .binOp .mul 3 (.tmp (29 : Nat)) (.tmp (31 : Nat)) 3, none⟩,
  ⟨(some 33), .binOp .sub 3 (.tmp (27 : Nat)) (.tmp (32 : Nat)) 3, none⟩,
  ⟨(some 34), .binOp .mul 3 (.tmp (22 : Nat)) (.tmp (33 : Nat)) 3, none⟩,
  ⟨(some 35), .binOp .add 3 (.tmp (20 : Nat)) (.tmp (34 : Nat)) 3, none⟩,
  ⟨(some 36), .indexAddr 160 (.tmp (3 : Nat)) (.const (.int .i64 2)), none⟩,
  ⟨(some 37), .load 3 (.tmp (36 : Nat)), none⟩,
  ⟨(some 38), .indexAddr 160 (.tmp (4 : Nat)) (.const (.int .i64 0)), none⟩,
  ⟨(some 39), .load 3 (.tmp (38 : Nat)), none⟩,
  ⟨(some 40), .indexAddr 160 (.tmp (5 : Nat)) (.const (.int .i64 1)), none⟩,
  ⟨(some 41), .load 3 (.tmp (40 : Nat)), none⟩,
  ⟨(some 42), .binOp .mul 3 (.tmp (39 : Nat)) (.tmp (41 : Nat)) 3, none⟩,
  ⟨(some 43), .indexAddr 160 (.tmp (4 : Nat)) (.const (.int .i64 1)), none⟩,
  ⟨(some 44), .load 3 (.tmp (43 : Nat)), none⟩,
  ⟨(some 45), .indexAddr 160 (.tmp (5 : Nat)) (.const (.int .i64 0)), none⟩,
  ⟨(some 46), .load 3 (.tmp (45 : Nat)), none⟩,
  ⟨(some 47), .binOp .mul 3 (.tmp (44 : Nat)) (.tmp (46 : Nat)) 3, none⟩,
  ⟨(some 48), .binOp .sub 3 (.tmp (42 : Nat)) (.tmp (47 : Nat)) 3, none⟩,
  ⟨(some 49), .binOp .mul 3 (.tmp (37 : Nat)) (.tmp (48 : Nat)) 3, none⟩,
  ⟨(some 50), .binOp .add 3 (.tmp (35 : Nat)) (.tmp (49 : Nat)) 3, none⟩,
  ⟨(some 6), .assign (.tmp (50 : Nat)), none⟩]
def gamut_det_c : SF := ⟨51, (.seq (.reg gamut_det_r0)
  (.seq (.reg gamut_det_r1)
  .ret)), [.tmp 6]⟩
theorem gamut_det_s : slimF Try.prog 104 = some gamut_det_c := by kernel_rfl
/-- printworks/gamut.corners$1 -/
def gamut_corners_1_r0 : List SO := [⟨(some 9), .assign (.const (.bool false)), none⟩]
def gamut_corners_1_r1 : List SO := [⟨(some 11), .move (.tmp (0 : Nat)), none⟩,
  ⟨(some 12), .load 82 (.tmp (2 : Nat)), none⟩,
  ⟨(some 13), .nilCheck (.tmp (12 : Nat)), none⟩,
  ⟨(some 14), .fieldAddr 25 (.tmp (13 : Nat)) 0, none⟩,
  ⟨(some 15), .load 3 (.tmp (14 : Nat)), none⟩,
  ⟨(some 16), .binOp .eql 3 (.tmp (11 : Nat)) (.tmp (15 : Nat)) 3, none⟩]
def gamut_corners_1_r2 : List SO := [⟨(some 17), .load 176 (.tmp (3 : Nat)), none⟩,
  ⟨(some 18), .load 23 (.tmp (4 : Nat)), none⟩,
  ⟨(some 19), .call ⟨(.value (.tmp (17 : Nat))), #[(.tmp (18 : Nat))], #[23]⟩, none⟩,
  ⟨(some 9), .assign (.tmp (19 : Nat)), none⟩]
def gamut_corners_1_r3 : List SO := [⟨(some 20), .load 82 (.tmp (2 : Nat)), none⟩,
  ⟨(some 21), .nilCheck (.tmp (20 : Nat)), none⟩,
  ⟨(some 22), .fieldAddr 25 (.tmp (21 : Nat)) 0, none⟩,
  ⟨(some 23), .load 3 (.tmp (22 : Nat)), none⟩,
  ⟨(some 24), .move (.const (.int .i64 0)), none⟩]
def gamut_corners_1_r4 : List SO := [⟨(some 25), .binOp .lss 3 (.tmp (24 : Nat)) (.tmp (23 : Nat)) 3, none⟩]
def gamut_corners_1_r5 : List SO := [⟨(some 26), .move (.tmp (24 : Nat)), none⟩,
  ⟨(some 10), .assign (.tmp (26 : Nat)), none⟩]
def gamut_corners_1_r6 : List SO := [⟨(some 27), .move (.tmp (1 : Nat)), none⟩,
  ⟨(some 28), .move (.tmp (10 : Nat)), none⟩,
  ⟨(some 29), .binOp .shl 3 (.const (.int .i64 1)) (.tmp (28 : Nat)) 3, none⟩,
  ⟨(some 30), .binOp .and 3 (.tmp (27 : Nat)) (.tmp (29 : Nat)) 3, none⟩,
  ⟨(some 31), .binOp .eql 3 (.tmp (30 : Nat)) (.const (.int .i64 0)) 3, none⟩]
def gamut_corners_1_r7 : List SO := [⟨(some 32), .load 23 (.tmp (4 : Nat)), none⟩,
  ⟨(some 33), .move (.tmp (0 : Nat)), none⟩,
  ⟨(some 34), .binOp .add 3 (.tmp (33 : Nat)) (.const (.int .i64 1)) 3, none⟩,
  ⟨(some 35), .load 23 (.tmp (4 : Nat)), none⟩,
  ⟨(some 36), .move (.tmp (0 : Nat)), none⟩,
  ⟨(some 37), .indexAddr 23 (.tmp (35 : Nat)) (.tmp (36 : Nat)), none⟩,
  ⟨(some 38), .load 3 (.tmp (37 : Nat)), none⟩,
  ⟨(some 39), .load 23 (.tmp (5 : Nat)), none⟩,
  ⟨(some 40), .move (.tmp (10 : Nat)), none⟩,
  ⟨(some 41), .indexAddr 23 (.tmp (39 : Nat)) (.tmp (40 : Nat)), none⟩,
  ⟨(some 42), .load 3 (.tmp (41 : Nat)), none⟩,
  ⟨(some 43), .binOp .add 3 (.tmp (38 : Nat)) (.tmp (42 : Nat)) 3, none⟩,
  ⟨(some 44), .indexAddr 23 (.tmp (32 : Nat)) (.tmp (34 : Nat)), none⟩,
  ⟨none, .store 3 (.tmp (44 : Nat)) (.tmp (43 : Nat)), none⟩]
def gamut_corners_1_a7 : List (List Nat) := [[], [], [1], [], [], [3, 4], [5], [], [], [7, 8], [9], [6, 10], [0, 2, 0, 1, 2, 3, 4, 5, 6, 7, 8, 9, 10, 11], [12, 11, 0, 1, 2, 3, 4, 5, 6, 7, 8, 9, 10, 11]]
def gamut_corners_1_r8 : List SO := [⟨(some 45), .load 177 (.tmp (6 : Nat)), none⟩,
  ⟨(some 46), .move (.tmp (0 : Nat)), none⟩,
  ⟨(some 47), .binOp .add 3 (.tmp (46 : Nat)) (.const (.int .i64 1)) 3, none⟩,
  ⟨(some 48), .move (.tmp (1 : Nat)), none⟩,
  ⟨(some 49), .move (.tmp (10 : Nat)), none⟩,
  ⟨(some 50), .binOp .shl 3 (.const (.int .i64 1)) (.tmp (49 : Nat)) 3, none⟩,
  ⟨(some 51), .binOp .or 3 (.tmp (48 : Nat)) (.tmp (50 : Nat)) 3, none⟩,
  ⟨(some 52), .call ⟨(.value (.tmp (45 : Nat))), #[(.tmp (47 : Nat)), (.tmp (51 : Nat))], #[3, 3]⟩, none⟩,
  ⟨(some 53), .unOp .not 4 (.tmp (52 : Nat)), none⟩]
def gamut_corners_1_a8 : List (List Nat) := [[], [], [1], [], [], [4], [3, 5], [0, 2, 6], [7]]
def gamut_corners_1_r9 : List SO := [⟨(some 9), .assign (.const (.bool false)), none⟩]
def gamut_corners_1_r10 : List SO := [⟨(some 54), .binOp .add 3 (.tmp (24 : Nat)) (.const (.int .i64 1)) 3, none⟩,
  ⟨(some 24), .move (.tmp (54 : Nat)), none⟩]
def gamut_corners_1_r11 : List SO := [⟨(some 9), .assign (.const (.bool true)), none⟩]
def gamut_corners_1_c : SF := ⟨55, (.seq (.reg gamut_corners_1_r0)
  (.seq (.seq (.reg gamut_corners_1_r1)
  (.cond (.tmp (16 : Nat)) (.seq (.reg gamut_corners_1_r2)
  .ret) .skip))
  (.seq (.seq (.reg gamut_corners_1_r3)
  (.block 0 (.loop (.seq (.reg gamut_corners_1_r4)
  (.seq (.cond (.tmp (25 : Nat)) .skip (.exit 0))
  (.seq (.block 1 (.seq (.reg gamut_corners_1_r5)
  (.seq (.reg gamut_corners_1_r6)
  (.cond (.tmp (31 : Nat)) (.seq (.regd gamut_corners_1_r7 gamut_corners_1_a7)
  (.seq (.regd gamut_corners_1_r8 gamut_corners_1_a8)
  (.cond (.tmp (53 : Nat)) (.seq (.reg gamut_corners_1_r9)
  .ret) .skip))) .skip))))
  (.reg gamut_corners_1_r10)))))))
  (.seq (.reg gamut_corners_1_r11)
  .ret)))), [.tmp 9]⟩
theorem gamut_corners_1_s : slimF Try.prog 109 = some gamut_corners_1_c := by kernel_rfl
def tbl_gamut : List (Nat × SF) := [(93, gamut_Map_c), (83, gamut_Quick_c), (101, gamut_shape_c), (95, gamut_Quick_1_c), (94, gamut_tetrahedra_c), (97, gamut_of_c), (96, gamut_weights_c), (98, gamut_part_c), (103, gamut_tetrahedra_1_c), (102, gamut_corners_c), (105, gamut_minus_c), (104, gamut_det_c), (109, gamut_corners_1_c)]
theorem tbl_gamut_ok : okT Try.prog tbl_gamut := ⟨gamut_Map_s, gamut_Quick_s, gamut_shape_s, gamut_Quick_1_s, gamut_tetrahedra_s, gamut_of_s, gamut_weights_s, gamut_part_s, gamut_tetrahedra_1_s, gamut_corners_s, gamut_minus_s, gamut_det_s, gamut_corners_1_s, trivial⟩

end Go.Proofs.Ytogbkhopanaoiaa
namespace Go.Proofs.Ytogbkhopanaoiaa
open Go Go.Lite
set_option linter.unusedVariables false

/-- printworks/printworkskeep2.conditionWorks -/
def K2_conditionWorks_r0 : List SO := [⟨(some 0), .assign (.const (.bool false)), none⟩]
def K2_conditionWorks_r1 : List SO := [⟨(some 10), .call ⟨(.value (.func (36 : Nat))), #[], #[]⟩, none⟩,
  ⟨(some 11), .call ⟨(.value (.func (11 : Nat))), #[(.tmp (10 : Nat)), (.const (.int .u8 64))], #[28, 5]⟩, none⟩,
  ⟨(some 9), .move (.tmp (11 : Nat)), none⟩,
  ⟨(some 12), .extract (.tmp (9 : Nat)) 0, none⟩,
  ⟨(some 13), .extract (.tmp (9 : Nat)) 1, none⟩,
  ⟨(some 1), .alloc 32, none⟩,
  ⟨none, .store 32 (.tmp (1 : Nat)) (.tmp (12 : Nat)), none⟩,
  ⟨(some 2), .assign (.tmp (13 : Nat)), none⟩]
def K2_conditionWorks_r2 : List SO := [⟨(some 15), .call ⟨(.value (.func (36 : Nat))), #[], #[]⟩, none⟩,
  ⟨(some 16), .call ⟨(.value (.func (11 : Nat))), #[(.tmp (15 : Nat)), (.const (.int .u8 0))], #[28, 5]⟩, none⟩,
  ⟨(some 14), .move (.tmp (16 : Nat)), none⟩,
  ⟨(some 17), .extract (.tmp (14 : Nat)) 0, none⟩,
  ⟨(some 18), .extract (.tmp (14 : Nat)) 1, none⟩,
  ⟨(some 3), .alloc 32, none⟩,
  ⟨none, .store 32 (.tmp (3 : Nat)) (.tmp (17 : Nat)), none⟩,
  ⟨(some 4), .assign (.tmp (18 : Nat)), none⟩]
def K2_conditionWorks_r3 : List SO := [⟨(some 20), .call ⟨(.value (.func (36 : Nat))), #[], #[]⟩, none⟩,
  ⟨(some 21), .build 29 #[], none⟩,
  ⟨(some 22), .call ⟨(.value (.func (13 : Nat))), #[(.tmp (20 : Nat)), (.tmp (21 : Nat))], #[28, 29]⟩, none⟩,
  ⟨(some 19), .move (.tmp (22 : Nat)), none⟩,
  ⟨(some 23), .extract (.tmp (19 : Nat)) 0, none⟩,
  ⟨(some 24), .extract (.tmp (19 : Nat)) 1, none⟩,
  ⟨(some 5), .alloc 32, none⟩,
  ⟨none, .store 32 (.tmp (5 : Nat)) (.tmp (23 : Nat)), none⟩,
  ⟨(some 6), .assign (.tmp (24 : Nat)), none⟩]
def K2_conditionWorks_r4 : List SO := [⟨(some 26), .call ⟨(.value (.func (36 : Nat))), #[], #[]⟩, none⟩,
  ⟨(some 27), .call ⟨(.value (.func (14 : Nat))), #[(.tmp (26 : Nat)), (.const (.string ⟨([98, 108, 97, 99, 107] : List UInt8).toArray⟩)), (.const (.int .u8 7))], #[28, 9, 5]⟩, none⟩,
  ⟨(some 25), .move (.tmp (27 : Nat)), none⟩,
  ⟨(some 28), .extract (.tmp (25 : Nat)) 0, none⟩,
  ⟨(some 29), .extract (.tmp (25 : Nat)) 1, none⟩,
  ⟨(some 7), .alloc 32, none⟩,
  ⟨none, .store 32 (.tmp (7 : Nat)) (.tmp (28 : Nat)), none⟩,
  ⟨(some 8), .assign (.tmp (29 : Nat)), none⟩]
def K2_conditionWorks_r5 : List SO := [⟨(some 30), .move (.tmp (2 : Nat)), none⟩,
  ⟨(some 31), .binOp .eql 33 (.tmp (30 : Nat)) (.const (.int .i64 0)) 33, none⟩,
  ⟨(some 32), .move (.tmp (31 : Nat)), none⟩,
  ⟨(some 33), .load 32 (.tmp (1 : Nat)), (some (32, true))⟩,
  ⟨(some 34), .build 32 #[(0, (.const (.int .u8 191)))], (some (32, true))⟩,
  ⟨(some 35), .binOp .eql 32 (.tmp (33 : Nat)) (.tmp (34 : Nat)) 32, (some (32, true))⟩,
  ⟨(some 36), .pick (.tmp (32 : Nat)) (.tmp (35 : Nat)) (.const (.bool false)), none⟩,
  ⟨(some 37), .move (.tmp (36 : Nat)), none⟩,
  ⟨(some 38), .move (.tmp (4 : Nat)), (some (37, true))⟩,
  ⟨(some 39), .binOp .eql 33 (.tmp (38 : Nat)) (.const (.int .i64 0)) 33, (some (37, true))⟩,
  ⟨(some 40), .pick (.tmp (37 : Nat)) (.tmp (39 : Nat)) (.const (.bool false)), none⟩,
  ⟨(some 41), .move (.tmp (40 : Nat)), none⟩,
  ⟨(some 42), .load 32 (.tmp (3 : Nat)), (some (41, true))⟩,
  ⟨(some 43), .build 32 #[(0, (.const (.int .u8 200)))], (some (41, true))⟩,
  ⟨(some 44), .binOp .eql 32 (.tmp (42 : Nat)) (.tmp (43 : Nat)) 32, (some (41, true))⟩,
  ⟨(some 45), .pick (.tmp (41 : Nat)) (.tmp (44 : Nat)) (.const (.bool false)), none⟩,
  ⟨(some 46), .move (.tmp (45 : Nat)), none⟩,
  ⟨(some 47), .move (.tmp (6 : Nat)), (some (46, true))⟩,
  ⟨(some 48), .binOp .eql 33 (.tmp (47 : Nat)) (.const (.int .i64 8)) 33, (some (46, true))⟩,
  ⟨(some 49), .pick (.tmp (46 : Nat)) (.tmp (48 : Nat)) (.const (.bool false)), none⟩,
  ⟨(some 50), .move (.tmp (49 : Nat)), none⟩,
  ⟨(some 51), .move (.tmp (8 : Nat)), (some (50, true))⟩,
  ⟨(some 52), .binOp .eql 33 (.tmp (51 : Nat)) (.const (.int .i64 0)) 33, (some (50, true))⟩,
  ⟨(some 53), .pick (.tmp (50 : Nat)) (.tmp (52 : Nat)) (.const (.bool false)), none⟩,
  ⟨(some 54), .move (.tmp (53 : Nat)), none⟩,
  ⟨(some 55), .load 32 (.tmp (7 : Nat)), (some (54, true))⟩,
  ⟨(some 56), .build 32 #[(0, (.const (.int .u8 7)))], (some (54, true))⟩,
  ⟨(some 57), .binOp .eql 32 (.tmp (55 : Nat)) (.tmp (56 : Nat)) 32, (some (54, true))⟩,
  ⟨(some 58), .pick (.tmp (54 : Nat)) (.tmp (57 : Nat)) (.const (.bool false)), none⟩,
  ⟨(some 0), .assign (.tmp (58 : Nat)), none⟩]
def K2_conditionWorks_c : SF := ⟨59, (.seq (.reg K2_conditionWorks_r0)
  (.seq (.reg K2_conditionWorks_r1)
  (.seq (.reg K2_conditionWorks_r2)
  (.seq (.reg K2_conditionWorks_r3)
  (.seq (.reg K2_conditionWorks_r4)
  (.seq (.reg K2_conditionWorks_r5)
  .ret)))))), [.tmp 0]⟩
theorem K2_conditionWorks_s : slimF Try.prog 10 = some K2_conditionWorks_c := by kernel_rfl
/-- printworks/printworkskeep2.devicelinkWorks -/
def K2_devicelinkWorks_r0 : List SO := [⟨(some 0), .assign (.const (.bool false)), none⟩]
def K2_devicelinkWorks_r1 : List SO := [⟨(some 6), .call ⟨(.value (.func (52 : Nat))), #[(.const (.int .i64 0)), (.const (.int .i64 65280))], #[3, 3]⟩, none⟩,
  ⟨(some 7), .buildSlice 23 1 #[(0, (.const (.int .i64 100)))], none⟩,
  ⟨(some 8), .call ⟨(.value (.func (18 : Nat))), #[(.tmp (6 : Nat)), (.tmp (7 : Nat))], #[25, 23]⟩, none⟩,
  ⟨(some 5), .move (.tmp (8 : Nat)), none⟩,
  ⟨(some 9), .extract (.tmp (5 : Nat)) 0, none⟩,
  ⟨(some 10), .extract (.tmp (5 : Nat)) 1, none⟩,
  ⟨(some 1), .assign (.tmp (9 : Nat)), none⟩,
  ⟨(some 2), .assign (.tmp (10 : Nat)), none⟩]
def K2_devicelinkWorks_r2 : List SO := [⟨(some 12), .call ⟨(.value (.func (54 : Nat))), #[], #[]⟩, none⟩,
  ⟨(some 13), .call ⟨(.value (.func (54 : Nat))), #[], #[]⟩, none⟩,
  ⟨(some 14), .build 100 #[(0, (.const (.int .i64 2))), (1, (.const (.int .i64 255))), (2, (.const (.int .i64 255)))], none⟩,
  ⟨(some 15), .call ⟨(.value (.func (53 : Nat))), #[(.tmp (12 : Nat)), (.tmp (13 : Nat)), (.tmp (14 : Nat))], #[62, 62, 100]⟩, none⟩,
  ⟨(some 11), .move (.tmp (15 : Nat)), none⟩,
  ⟨(some 16), .extract (.tmp (11 : Nat)) 0, none⟩,
  ⟨(some 17), .extract (.tmp (11 : Nat)) 1, none⟩,
  ⟨(some 3), .alloc 25, none⟩,
  ⟨none, .store 25 (.tmp (3 : Nat)) (.tmp (16 : Nat)), none⟩,
  ⟨(some 4), .assign (.tmp (17 : Nat)), none⟩]
def K2_devicelinkWorks_r3 : List SO := [⟨(some 18), .move (.tmp (2 : Nat)), none⟩,
  ⟨(some 19), .binOp .eql 33 (.tmp (18 : Nat)) (.const (.int .i64 0)) 33, none⟩,
  ⟨(some 20), .move (.tmp (19 : Nat)), none⟩,
  ⟨(some 21), .move (.tmp (1 : Nat)), (some (20, true))⟩,
  ⟨(some 22), .buildSlice 23 1 #[(0, (.const (.int .i64 100)))], (some (20, true))⟩,
  ⟨(some 23), .call ⟨(.value (.func (24 : Nat))), #[(.tmp (21 : Nat)), (.tmp (22 : Nat))], #[23, 23]⟩, (some (20, true))⟩,
  ⟨(some 24), .pick (.tmp (20 : Nat)) (.tmp (23 : Nat)) (.const (.bool false)), none⟩,
  ⟨(some 25), .move (.tmp (24 : Nat)), none⟩,
  ⟨(some 26), .move (.tmp (4 : Nat)), (some (25, true))⟩,
  ⟨(some 27), .binOp .eql 33 (.tmp (26 : Nat)) (.const (.int .i64 0)) 33, (some (25, true))⟩,
  ⟨(some 28), .pick (.tmp (25 : Nat)) (.tmp (27 : Nat)) (.const (.bool false)), none⟩,
  ⟨(some 29), .move (.tmp (28 : Nat)), none⟩,
  ⟨(some 30), .load 25 (.tmp (3 : Nat)), (some (29, true))⟩,
  ⟨(some 31), .call ⟨(.value (.func (52 : Nat))), #[(.const (.int .i64 0)), (.const (.int .i64 65280))], #[3, 3]⟩, (some (29, true))⟩,
  ⟨(some 32), .call ⟨(.value (.func (55 : Nat))), #[(.tmp (30 : Nat)), (.tmp (31 : Nat))], #[25, 25]⟩, (some (29, true))⟩,
  ⟨(some 33), .pick (.tmp (29 : Nat)) (.tmp (32 : Nat)) (.const (.bool false)), none⟩,
  ⟨(some 0), .assign (.tmp (33 : Nat)), none⟩]
def K2_devicelinkWorks_a3 : List (List Nat) := [[], [0], [1], [2], [2], [3, 4, 2, 2], [2, 5], [6, 5], [7], [8, 7], [7, 9], [10, 7], [11], [11, 11], [12, 13, 13, 11], [11, 14], [15, 14, 0, 1, 2, 3, 4, 5, 6, 7, 8, 9, 10, 11, 12, 13, 14, 15]]
def K2_devicelinkWorks_c : SF := ⟨34, (.seq (.reg K2_devicelinkWorks_r0)
  (.seq (.reg K2_devicelinkWorks_r1)
  (.seq (.reg K2_devicelinkWorks_r2)
  (.seq (.regd K2_devicelinkWorks_r3 K2_devicelinkWorks_a3)
  .ret)))), [.tmp 0]⟩
theorem K2_devicelinkWorks_s : slimF Try.prog 20 = some K2_devicelinkWorks_c := by kernel_rfl
abbrev K2_devicelinkWorks_f : Nat := 20
/-- printworks/printworkskeep2.profileWorks -/
def K2_profileWorks_r0 : List SO := [⟨(some 0), .assign (.const (.bool false)), none⟩]
def K2_profileWorks_r1 : List SO := [⟨(some 8), .call ⟨(.value (.func (54 : Nat))), #[], #[]⟩, none⟩,
  ⟨(some 9), .buildSlice 23 1 #[(0, (.const (.int .i64 128)))], none⟩,
  ⟨(some 10), .call ⟨(.value (.func (26 : Nat))), #[(.tmp (8 : Nat)), (.tmp (9 : Nat))], #[62, 23]⟩, none⟩,
  ⟨(some 7), .move (.tmp (10 : Nat)), none⟩,
  ⟨(some 11), .extract (.tmp (7 : Nat)) 0, none⟩,
  ⟨(some 12), .extract (.tmp (7 : Nat)) 1, none⟩,
  ⟨(some 1), .alloc 43, none⟩,
  ⟨none, .store 43 (.tmp (1 : Nat)) (.tmp (11 : Nat)), none⟩,
  ⟨(some 2), .assign (.tmp (12 : Nat)), none⟩]
def K2_profileWorks_r2 : List SO := [⟨(some 14), .call ⟨(.value (.func (54 : Nat))), #[], #[]⟩, none⟩,
  ⟨(some 15), .call ⟨(.value (.func (32 : Nat))), #[(.tmp (14 : Nat))], #[62]⟩, none⟩,
  ⟨(some 13), .move (.tmp (15 : Nat)), none⟩,
  ⟨(some 16), .extract (.tmp (13 : Nat)) 0, none⟩,
  ⟨(some 17), .extract (.tmp (13 : Nat)) 1, none⟩,
  ⟨(some 3), .assign (.tmp (16 : Nat)), none⟩,
  ⟨(some 4), .assign (.tmp (17 : Nat)), none⟩]
def K2_profileWorks_r3 : List SO := [⟨(some 19), .move (.tmp (3 : Nat)), none⟩,
  ⟨(some 20), .call ⟨(.value (.func (62 : Nat))), #[(.tmp (19 : Nat))], #[71]⟩, none⟩,
  ⟨(some 18), .move (.tmp (20 : Nat)), none⟩,
  ⟨(some 21), .extract (.tmp (18 : Nat)) 0, none⟩,
  ⟨(some 22), .extract (.tmp (18 : Nat)) 1, none⟩,
  ⟨(some 5), .assign (.tmp (21 : Nat)), none⟩,
  ⟨(some 6), .assign (.tmp (22 : Nat)), none⟩]
def K2_profileWorks_r4 : List SO := [⟨(some 23), .move (.tmp (2 : Nat)), none⟩,
  ⟨(some 24), .binOp .eql 33 (.tmp (23 : Nat)) (.const (.int .i64 0)) 33, none⟩,
  ⟨(some 25), .move (.tmp (24 : Nat)), none⟩,
  ⟨(some 26), .load 43 (.tmp (1 : Nat)), (some (25, true))⟩,
  ⟨(some 27), .build 43 #[(0, (.const (.int .i64 5984))), (1, (.const (.int .i64 50))), (2, (.const (.int .i64 (-50))))], (some (25, true))⟩,
  ⟨(some 28), .binOp .eql 43 (.tmp (26 : Nat)) (.tmp (27 : Nat)) 43, (some (25, true))⟩,
  ⟨(some 29), .pick (.tmp (25 : Nat)) (.tmp (28 : Nat)) (.const (.bool false)), none⟩,
  ⟨(some 30), .move (.tmp (29 : Nat)), none⟩,
  ⟨(some 31), .move (.tmp (4 : Nat)), (some (30, true))⟩,
  ⟨(some 32), .binOp .eql 33 (.tmp (31 : Nat)) (.const (.int .i64 0)) 33, (some (30, true))⟩,
  ⟨(some 33), .pick (.tmp (30 : Nat)) (.tmp (32 : Nat)) (.const (.bool false)), none⟩,
  ⟨(some 34), .move (.tmp (33 : Nat)), none⟩,
  ⟨(some 35), .move (.tmp (3 : Nat)), (some (34, true))⟩,
  ⟨(some 36), .call ⟨(.builtin .len), #[(.tmp (35 : Nat))], #[71]⟩, (some (34, true))⟩,
  ⟨(some 37), .binOp .eql 3 (.tmp (36 : Nat)) (.const (.int .i64 104)) 3, (some (34, true))⟩,
  ⟨(some 38), .pick (.tmp (34 : Nat)) (.tmp (37 : Nat)) (.const (.bool false)), none⟩,
  ⟨(some 39), .move (.tmp (38 : Nat)), none⟩,
  ⟨(some 40), .move (.tmp (6 : Nat)), (some (39, true))⟩,
  ⟨(some 41), .binOp .eql 33 (.tmp (40 : Nat)) (.const (.int .i64 0)) 33, (some (39, true))⟩,
  ⟨(some 42), .pick (.tmp (39 : Nat)) (.tmp (41 : Nat)) (.const (.bool false)), none⟩,
  ⟨(some 43), .move (.tmp (42 : Nat)), none⟩,
  ⟨(some 44), .move (.tmp (5 : Nat)), (some (43, true))⟩,
  ⟨(some 45), .buildSlice 22 4 #[(0, (.const (.string ⟨([110, 97, 109, 101] : List UInt8).toArray⟩))), (1, (.const (.string ⟨([105, 110, 107, 115] : List UInt8).toArray⟩))), (2, (.const (.string ⟨([99, 117, 114, 118] : List UInt8).toArray⟩))), (3, (.const (.string ⟨([103, 114, 105, 100] : List UInt8).toArray⟩)))], (some (43, true))⟩,
  ⟨(some 46), .call ⟨(.value (.func (63 : Nat))), #[(.tmp (44 : Nat)), (.tmp (45 : Nat))], #[22, 22]⟩, (some (43, true))⟩,
  ⟨(some 47), .pick (.tmp (43 : Nat)) (.tmp (46 : Nat)) (.const (.bool false)), none⟩,
  ⟨(some 48), .move (.tmp (47 : Nat)), none⟩,
  ⟨(some 49), .buildSlice 71 9 #[(0, (.const (.int .u8 49))), (1, (.const (.int .u8 50))), (2, (.const (.int .u8 51))), (3, (.const (.int .u8 52))), (4, (.const (.int .u8 53))), (5, (.const (.int .u8 54))), (6, (.const (.int .u8 55))), (7, (.const (.int .u8 56))), (8, (.const (.int .u8 57)))], (some (48, true))⟩,
  ⟨(some 50), .convert 71 71 (.tmp (49 : Nat)), (some (48, true))⟩,
  ⟨(some 51), .call ⟨(.value (.func (64 : Nat))), #[(.tmp (50 : Nat))], #[71]⟩, (some (48, true))⟩,
  ⟨(some 52), .binOp .eql 3 (.tmp (51 : Nat)) (.const (.int .i64 3421780262)) 3, (some (48, true))⟩,
  ⟨(some 53), .pick (.tmp (48 : Nat)) (.tmp (52 : Nat)) (.const (.bool false)), none⟩,
  ⟨(some 0), .assign (.tmp (53 : Nat)), none⟩]
def K2_profileWorks_c : SF := ⟨54, (.seq (.reg K2_profileWorks_r0)
  (.seq (.reg K2_profileWorks_r1)
  (.seq (.reg K2_profileWorks_r2)
  (.seq (.reg K2_profileWorks_r3)
  (.seq (.reg K2_profileWorks_r4)
  .ret))))), [.tmp 0]⟩
theorem K2_profileWorks_s : slimF Try.prog 28 = some K2_profileWorks_c := by kernel_rfl
/-- printworks/printworkskeep2.single -/
def K2_single_r0 : List SO := [⟨(some 0), .alloc 28, none⟩]
def K2_single_r1 : List SO := [⟨(some 2), .buildSlice 22 1 #[(0, (.const (.string ⟨([98, 108, 97, 99, 107] : List UInt8).toArray⟩)))], none⟩,
  ⟨(some 3), .buildSlice 23 1 #[(0, (.const (.int .i64 0)))], none⟩,
  ⟨(some 4), .call ⟨(.value (.func (52 : Nat))), #[(.const (.int .i64 65280)), (.const (.int .i64 0))], #[3, 3]⟩, none⟩,
  ⟨(some 5), .makeSlice 23 (.const (.int .i64 8)) (.const (.int .i64 8)), none⟩,
  ⟨(some 6), .build 25 #[(0, (.const (.int .i64 3))), (1, (.const (.int .i64 1))), (2, (.const (.int .i64 2))), (3, (.tmp (5 : Nat)))], none⟩,
  ⟨(some 7), .build 28 #[(0, (.tmp (2 : Nat))), (2, (.tmp (3 : Nat))), (3, (.tmp (4 : Nat))), (4, (.tmp (6 : Nat))), (6, (.const (.int .i64 200)))], none⟩,
  ⟨(some 1), .alloc 28, none⟩,
  ⟨none, .store 28 (.tmp (1 : Nat)) (.tmp (7 : Nat)), none⟩]
def K2_single_a1 : List (List Nat) := [[], [], [], [], [3], [0, 1, 2, 4], [], [6, 5, 2, 0, 1, 2, 3, 4, 5, 6]]
def K2_single_r2 : List SO := [⟨(some 8), .fieldAddr 28 (.tmp (1 : Nat)) 4, none⟩,
  ⟨(some 9), .fieldAddr 25 (.tmp (8 : Nat)) 3, none⟩,
  ⟨(some 10), .load 23 (.tmp (9 : Nat)), none⟩,
  ⟨(some 11), .indexAddr 23 (.tmp (10 : Nat)) (.const (.int .i64 0)), none⟩,
  ⟨none, .store 3 (.tmp (11 : Nat)) (.const (.int .i64 65280)), none⟩]
def K2_single_r3 : List SO := [⟨(some 12), .load 28 (.tmp (1 : Nat)), none⟩,
  ⟨none, .store 28 (.tmp (0 : Nat)) (.tmp (12 : Nat)), none⟩]
def K2_single_c : SF := ⟨13, (.seq (.reg K2_single_r0)
  (.seq (.regd K2_single_r1 K2_single_a1)
  (.seq (.reg K2_single_r2)
  (.seq (.reg K2_single_r3)
  .ret)))), [.cell 0 28]⟩
theorem K2_single_s : slimF Try.prog 36 = some K2_single_c := by kernel_rfl
/-- printworks/printworkskeep2.straight -/
def K2_straight_r0 : List SO := [⟨(some 4), .alloc 25, none⟩]
def K2_straight_r1 : List SO := [⟨(some 5), .move (.tmp (0 : Nat)), none⟩,
  ⟨(some 6), .move (.tmp (1 : Nat)), none⟩,
  ⟨(some 7), .buildSlice 23 2 #[(0, (.tmp (5 : Nat))), (1, (.tmp (6 : Nat)))], none⟩,
  ⟨(some 8), .build 25 #[(0, (.const (.int .i64 1))), (1, (.const (.int .i64 1))), (2, (.const (.int .i64 2))), (3, (.tmp (7 : Nat)))], none⟩,
  ⟨none, .store 25 (.tmp (4 : Nat)) (.tmp (8 : Nat)), none⟩]
def K2_straight_c : SF := ⟨9, (.seq (.reg K2_straight_r0)
  (.seq (.reg K2_straight_r1)
  .ret)), [.cell 4 25]⟩
theorem K2_straight_s : slimF Try.prog 52 = some K2_straight_c := by kernel_rfl
/-- printworks/printworkskeep2.one -/
def K2_one_r0 : List SO := [⟨(some 0), .alloc 62, none⟩]
def K2_one_r1 : List SO := [⟨(some 1), .buildSlice 22 1 #[(0, (.const (.string ⟨([98, 108, 97, 99, 107] : List UInt8).toArray⟩)))], none⟩,
  ⟨(some 2), .call ⟨(.value (.func (86 : Nat))), #[], #[]⟩, none⟩,
  ⟨(some 3), .buildSlice 60 1 #[(0, (.tmp (2 : Nat)))], none⟩,
  ⟨(some 4), .buildSlice 23 6 #[(0, (.const (.int .i64 10000))), (1, (.const (.int .i64 0))), (2, (.const (.int .i64 0))), (3, (.const (.int .i64 2000))), (4, (.const (.int .i64 100))), (5, (.const (.int .i64 (-100))))], none⟩,
  ⟨(some 5), .build 25 #[(0, (.const (.int .i64 1))), (1, (.const (.int .i64 3))), (2, (.const (.int .i64 2))), (3, (.tmp (4 : Nat)))], none⟩,
  ⟨(some 6), .build 62 #[(0, (.const (.string ⟨([112, 49] : List UInt8).toArray⟩))), (1, (.tmp (1 : Nat))), (2, (.tmp (3 : Nat))), (3, (.tmp (5 : Nat)))], none⟩,
  ⟨none, .store 62 (.tmp (0 : Nat)) (.tmp (6 : Nat)), none⟩]
def K2_one_c : SF := ⟨7, (.seq (.reg K2_one_r0)
  (.seq (.reg K2_one_r1)
  .ret)), [.cell 0 62]⟩
theorem K2_one_s : slimF Try.prog 54 = some K2_one_c := by kernel_rfl
/-- printworks/printworkskeep2.line -/
def K2_line_r0 : List SO := [⟨(some 0), .alloc 46, none⟩]
def K2_line_r1 : List SO := [⟨(some 1), .build 116 #[], none⟩,
  ⟨(some 2), .build 116 #[(0, (.const (.int .i64 65280))), (1, (.const (.int .i64 65280)))], none⟩,
  ⟨(some 3), .buildSlice 44 2 #[(0, (.tmp (1 : Nat))), (1, (.tmp (2 : Nat)))], none⟩,
  ⟨(some 4), .build 46 #[(0, (.tmp (3 : Nat)))], none⟩,
  ⟨none, .store 46 (.tmp (0 : Nat)) (.tmp (4 : Nat)), none⟩]
def K2_line_c : SF := ⟨5, (.seq (.reg K2_line_r0)
  (.seq (.reg K2_line_r1)
  .ret)), [.cell 0 46]⟩
theorem K2_line_s : slimF Try.prog 86 = some K2_line_c := by kernel_rfl
def tbl_K2 : List (Nat × SF) := [(10, K2_conditionWorks_c), (20, K2_devicelinkWorks_c), (28, K2_profileWorks_c), (36, K2_single_c), (52, K2_straight_c), (54, K2_one_c), (86, K2_line_c)]
theorem tbl_K2_ok : okT Try.prog tbl_K2 := ⟨K2_conditionWorks_s, K2_devicelinkWorks_s, K2_profileWorks_s, K2_single_s, K2_straight_s, K2_one_s, K2_line_s, trivial⟩

end Go.Proofs.Ytogbkhopanaoiaa
namespace Go.Proofs.Ytogbkhopanaoiaa
open Go Go.Lite
set_option linter.unusedVariables false

/-- printworks/printworkskeep2.DevicelinkDistances -/
def K2_DevicelinkDistances_r0 : List SO := [⟨(some 4), .box 62 (.tmp (0 : Nat)), none⟩,
  ⟨(some 5), .box 62 (.tmp (1 : Nat)), none⟩,
  ⟨(some 6), .box 25 (.tmp (2 : Nat)), none⟩,
  ⟨(some 8), .assign (.const (.bool false)), none⟩]
def K2_DevicelinkDistances_r1 : List SO := [⟨(some 19), .call ⟨(.value (.func (20 : Nat))), #[], #[]⟩, none⟩,
  ⟨(some 20), .unOp .not 4 (.tmp (19 : Nat)), none⟩]
def K2_DevicelinkDistances_r2 : List SO := [⟨(some 8), .assign (.const (.bool false)), none⟩]
def K2_DevicelinkDistances_r3 : List SO := [⟨(some 22), .load 62 (.tmp (4 : Nat)), none⟩,
  ⟨(some 23), .load 62 (.tmp (5 : Nat)), none⟩,
  ⟨(some 24), .load 25 (.tmp (6 : Nat)), none⟩,
  ⟨(some 25), .move (.tmp (3 : Nat)), none⟩,
  ⟨(some 26), .call ⟨(.value (.func (25 : Nat))), #[(.tmp (22 : Nat)), (.tmp (23 : Nat)), (.tmp (24 : Nat)), (.tmp (25 : Nat))], #[62, 62, 25, 23]⟩, none⟩,
  ⟨(some 21), .move (.tmp (26 : Nat)), none⟩,
  ⟨(some 27), .extract (.tmp (21 : Nat)) 0, none⟩,
  ⟨(some 28), .extract (.tmp (21 : Nat)) 1, none⟩,
  ⟨(some 9), .assign (.tmp (27 : Nat)), none⟩,
  ⟨(some 10), .assign (.tmp (28 : Nat)), none⟩]
def K2_DevicelinkDistances_r4 : List SO := [⟨(some 29), .move (.tmp (10 : Nat)), none⟩,
  ⟨(some 30), .binOp .neq 33 (.tmp (29 : Nat)) (.const (.int .i64 0)) 33, none⟩]
def K2_DevicelinkDistances_r5 : List SO := [⟨(some 31), .move (.tmp (9 : Nat)), none⟩,
  ⟨(some 32), .binOp .eql 3 (.tmp (31 : Nat)) (.const (.int .i64 0)) 3, none⟩,
  ⟨(some 8), .assign (.tmp (32 : Nat)), none⟩]
def K2_DevicelinkDistances_r6 : List SO := [⟨(some 34), .load 62 (.tmp (4 : Nat)), none⟩,
  ⟨(some 35), .move (.tmp (3 : Nat)), none⟩,
  ⟨(some 36), .call ⟨(.value (.func (26 : Nat))), #[(.tmp (34 : Nat)), (.tmp (35 : Nat))], #[62, 23]⟩, none⟩,
  ⟨(some 33), .move (.tmp (36 : Nat)), none⟩,
  ⟨(some 37), .extract (.tmp (33 : Nat)) 0, none⟩,
  ⟨(some 38), .extract (.tmp (33 : Nat)) 1, none⟩,
  ⟨(some 11), .alloc 43, none⟩,
  ⟨none, .store 43 (.tmp (11 : Nat)) (.tmp (37 : Nat)), none⟩,
  ⟨(some 12), .assign (.tmp (38 : Nat)), none⟩]
def K2_DevicelinkDistances_r7 : List SO := [⟨(some 40), .load 25 (.tmp (6 : Nat)), none⟩,
  ⟨(some 41), .move (.tmp (3 : Nat)), none⟩,
  ⟨(some 42), .call ⟨(.value (.func (18 : Nat))), #[(.tmp (40 : Nat)), (.tmp (41 : Nat))], #[25, 23]⟩, none⟩,
  ⟨(some 39), .move (.tmp (42 : Nat)), none⟩,
  ⟨(some 43), .extract (.tmp (39 : Nat)) 0, none⟩,
  ⟨(some 44), .extract (.tmp (39 : Nat)) 1, none⟩,
  ⟨(some 13), .assign (.tmp (43 : Nat)), none⟩,
  ⟨(some 14), .assign (.tmp (44 : Nat)), none⟩]
def K2_DevicelinkDistances_r8 : List SO := [⟨(some 46), .load 62 (.tmp (5 : Nat)), none⟩,
  ⟨(some 47), .move (.tmp (13 : Nat)), none⟩,
  ⟨(some 48), .call ⟨(.value (.func (26 : Nat))), #[(.tmp (46 : Nat)), (.tmp (47 : Nat))], #[62, 23]⟩, none⟩,
  ⟨(some 45), .move (.tmp (48 : Nat)), none⟩,
  ⟨(some 49), .extract (.tmp (45 : Nat)) 0, none⟩,
  ⟨(some 50), .extract (.tmp (45 : Nat)) 1, none⟩,
  ⟨(some 15), .alloc 43, none⟩,
  ⟨none, .store 43 (.tmp (15 : Nat)) (.tmp (49 : Nat)), none⟩,
  ⟨(some 16), .assign (.tmp (50 : Nat)), none⟩]
def K2_DevicelinkDistances_r9 : List SO := [⟨(some 52), .load 43 (.tmp (11 : Nat)), none⟩,
  ⟨(some 53), .load 43 (.tmp (15 : Nat)), none⟩,
  ⟨(some 54), .call ⟨(.value (.func (27 : Nat))), #[(.tmp (52 : Nat)), (.tmp (53 : Nat))], #[43, 43]⟩, none⟩,
  ⟨(some 51), .move (.tmp (54 : Nat)), none⟩,
  ⟨(some 55), .extract (.tmp (51 : Nat)) 0, none⟩,
  ⟨(some 56), .extract (.tmp (51 : Nat)) 1, none⟩,
  ⟨(some 17), .assign (.tmp (55 : Nat)), none⟩,
  ⟨(some 18), .assign (.tmp (56 : Nat)), none⟩]
def K2_DevicelinkDistances_r10 : List SO := [⟨(some 57), .move (.tmp (12 : Nat)), none⟩,
  ⟨(some 58), .binOp .eql 33 (.tmp (57 : Nat)) (.const (.int .i64 0)) 33, none⟩,
  ⟨(some 59), .move (.tmp (58 : Nat)), none⟩,
  ⟨(some 60), .move (.tmp (14 : Nat)), (some (59, true))⟩,
  ⟨(some 61), .binOp .eql 33 (.tmp (60 : Nat)) (.const (.int .i64 0)) 33, (some (59, true))⟩,
  ⟨(some 62), .pick (.tmp (59 : Nat)) (.tmp (61 : Nat)) (.const (.bool false)), none⟩,
  ⟨(some 63), .move (.tmp (62 : Nat)), none⟩,
  ⟨(some 64), .move (.tmp (16 : Nat)), (some (63, true))⟩,
  ⟨(some 65), .binOp .eql 33 (.tmp (64 : Nat)) (.const (.int .i64 0)) 33, (some (63, true))⟩,
  ⟨(some 66), .pick (.tmp (63 : Nat)) (.tmp (65 : Nat)) (.const (.bool false)), none⟩,
  ⟨(some 67), .move (.tmp (66 : Nat)), none⟩,
  ⟨(some 68), .move (.tmp (18 : Nat)), (some (67, true))⟩,
  ⟨(some 69), .binOp .eql 33 (.tmp (68 : Nat)) (.const (.int .i64 0)) 33, (some (67, true))⟩,
  ⟨(some 70), .pick (.tmp (67 : Nat)) (.tmp (69 : Nat)) (.const (.bool false)), none⟩,
  ⟨(some 71), .move (.tmp (70 : Nat)), none⟩,
  ⟨(some 72), .move (.tmp (9 : Nat)), (some (71, true))⟩,
  ⟨(some 73), .move (.tmp (17 : Nat)), (some (71, true))⟩,
  ⟨(some 74), .binOp .eql 3 (.tmp (72 : Nat)) (.tmp (73 : Nat)) 3, (some (71, true))⟩,
  ⟨(some 75), .pick (.tmp (71 : Nat)) (.tmp (74 : Nat)) (.const (.bool false)), none⟩,
  ⟨(some 8), .assign (.tmp (75 : Nat)), none⟩]
def K2_DevicelinkDistances_c : SF := ⟨76, (.seq (.reg K2_DevicelinkDistances_r0)
  (.seq (.seq (.reg K2_DevicelinkDistances_r1)
  (.cond (.tmp (20 : Nat)) (.seq (.reg K2_DevicelinkDistances_r2)
  .ret) .skip))
  (.seq (.reg K2_DevicelinkDistances_r3)
  (.seq (.seq (.reg K2_DevicelinkDistances_r4)
  (.cond (.tmp (30 : Nat)) (.seq (.reg K2_DevicelinkDistances_r5)
  .ret) .skip))
  (.seq (.reg K2_DevicelinkDistances_r6)
  (.seq (.reg K2_DevicelinkDistances_r7)
  (.seq (.reg K2_DevicelinkDistances_r8)
  (.seq (.reg K2_DevicelinkDistances_r9)
  (.seq (.reg K2_DevicelinkDistances_r10)
  .ret))))))))), [.tmp 8]⟩
theorem K2_DevicelinkDistances_s : slimF Try.prog 7 = some K2_DevicelinkDistances_c := by kernel_rfl
abbrev K2_DevicelinkDistances_f : Nat := 7

end Go.Proofs.Ytogbkhopanaoiaa
