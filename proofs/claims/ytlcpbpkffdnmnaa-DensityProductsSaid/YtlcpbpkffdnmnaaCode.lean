/- Printed by program (gen.lean): the functions' code in few words; the kernel checks each against the translation. -/
import Derived.Test.YtlcpbpkffdnmnaaRows
import Derived.Test.YtlcpbpkffdnmnaaLc
namespace Go.Proofs.Ytlcpbpkffdnmnaa
open Go Go.Lite

theorem mixed : Try.prog.follows .mixedOrders = true := by kernel_rfl

theorem ti3 : tiOf Try.prog 3 = some ⟨.int .i64, 1, false, [.int .i64 0]⟩ := by kernel_rfl
theorem ti24 : tiOf Try.prog 24 = some ⟨.int .i64, 1, false, [.int .i64 0]⟩ := by kernel_rfl
theorem ti32 : tiOf Try.prog 32 = some ⟨.struct [(0, 1, false)], 1, true, [.nils]⟩ := by kernel_rfl
theorem ti45 : tiOf Try.prog 45 = some ⟨.struct [(0, 1, false), (1, 1, false)], 2, true, [.int .i64 0, .int .i64 0]⟩ := by kernel_rfl
theorem ti30 : tiOf Try.prog 30 = some ⟨.slice 2 16 [.int .i64 0, .int .i64 0], 1, false, [.nils]⟩ := by kernel_rfl
theorem ti39 : tiOf Try.prog 39 = some ⟨.slice 1 8 [.int .i64 0], 1, false, [.nils]⟩ := by kernel_rfl
theorem ti49 : tiOf Try.prog 49 = some ⟨.int .u64, 1, false, [.int .u64 0]⟩ := by kernel_rfl
theorem ti53 : tiOf Try.prog 53 = some ⟨.struct [(0, 1, false), (1, 1, false)], 2, true, [.int .i64 0, .int .i64 0]⟩ := by kernel_rfl
theorem ti51 : tiOf Try.prog 51 = some ⟨.slice 2 16 [.int .i64 0, .int .i64 0], 1, false, [.nils]⟩ := by kernel_rfl
theorem ti5 : tiOf Try.prog 5 = some ⟨.int .u8, 1, false, [.int .u8 0]⟩ := by kernel_rfl
theorem ti9 : tiOf Try.prog 9 = some ⟨.str, 1, false, [.str ⟨([] : List UInt8).toArray⟩]⟩ := by kernel_rfl

def str_1 : ByteArray := ⟨([0, 1, 2, 2, 3, 3, 3, 3, 4, 4, 4, 4, 4, 4, 4, 4, 5, 5, 5, 5, 5, 5, 5, 5, 5, 5, 5, 5, 5, 5, 5, 5, 6, 6, 6, 6, 6, 6, 6, 6, 6, 6, 6, 6, 6, 6, 6, 6, 6, 6, 6, 6, 6, 6, 6, 6, 6, 6, 6, 6, 6, 6, 6, 6, 7, 7, 7, 7, 7, 7, 7, 7, 7, 7, 7, 7, 7, 7, 7, 7, 7, 7, 7, 7, 7, 7, 7, 7, 7, 7, 7, 7, 7, 7, 7, 7, 7, 7, 7, 7, 7, 7, 7, 7, 7, 7, 7, 7, 7, 7, 7, 7, 7, 7, 7, 7, 7, 7, 7, 7, 7, 7, 7, 7, 7, 7, 7, 7, 8, 8, 8, 8, 8, 8, 8, 8, 8, 8, 8, 8, 8, 8, 8, 8, 8, 8, 8, 8, 8, 8, 8, 8, 8, 8, 8, 8, 8, 8, 8, 8, 8, 8, 8, 8, 8, 8, 8, 8, 8, 8, 8, 8, 8, 8, 8, 8, 8, 8, 8, 8, 8, 8, 8, 8, 8, 8, 8, 8, 8, 8, 8, 8, 8, 8, 8, 8, 8, 8, 8, 8, 8, 8, 8, 8, 8, 8, 8, 8, 8, 8, 8, 8, 8, 8, 8, 8, 8, 8, 8, 8, 8, 8, 8, 8, 8, 8, 8, 8, 8, 8, 8, 8, 8, 8, 8, 8, 8, 8, 8, 8, 8, 8, 8, 8, 8, 8, 8, 8, 8, 8, 8, 8, 8, 8, 8, 8] : List UInt8).toArray⟩
def K2_DensityProducts_r0 : List SO := [⟨(some 4), .assign (.const (.bool false)), none⟩]
def K2_DensityProducts_r1 : List SO := [⟨(some 13), .call ⟨(.value (.func 8)), #[], #[]⟩, none⟩,
  ⟨(some 14), .unOp .not 4 (.tmp 13), none⟩]
def K2_DensityProducts_r2 : List SO := [⟨(some 4), .assign (.const (.bool false)), none⟩]
def K2_DensityProducts_r3 : List SO := [⟨(some 15), .move (.tmp 0), none⟩,
  ⟨(some 16), .call ⟨(.value (.func 9)), #[(.tmp 15), (.const (.int .i64 1048576))], #[3, 3]⟩, none⟩,
  ⟨(some 17), .binOp .add 3 (.const (.int .i64 1)) (.tmp 16) 3, none⟩,
  ⟨(some 18), .move (.tmp 1), none⟩,
  ⟨(some 19), .call ⟨(.value (.func 9)), #[(.tmp 18), (.const (.int .i64 1048576))], #[3, 3]⟩, none⟩,
  ⟨(some 20), .binOp .add 3 (.const (.int .i64 1)) (.tmp 19) 3, none⟩,
  ⟨(some 0), .assign (.tmp 17), none⟩,
  ⟨(some 1), .assign (.tmp 20), none⟩]
def K2_DensityProducts_r4 : List SO := [⟨(some 22), .move (.tmp 0), none⟩,
  ⟨(some 23), .call ⟨(.value (.func 10)), #[(.tmp 22)], #[3]⟩, none⟩,
  ⟨(some 21), .move (.tmp 23), none⟩,
  ⟨(some 24), .extract (.tmp 21) 0, none⟩,
  ⟨(some 25), .extract (.tmp 21) 1, none⟩,
  ⟨(some 5), .assign (.tmp 24), none⟩,
  ⟨(some 6), .assign (.tmp 25), none⟩]
def K2_DensityProducts_r5 : List SO := [⟨(some 27), .move (.tmp 1), none⟩,
  ⟨(some 28), .call ⟨(.value (.func 10)), #[(.tmp 27)], #[3]⟩, none⟩,
  ⟨(some 26), .move (.tmp 28), none⟩,
  ⟨(some 29), .extract (.tmp 26) 0, none⟩,
  ⟨(some 30), .extract (.tmp 26) 1, none⟩,
  ⟨(some 7), .assign (.tmp 29), none⟩,
  ⟨(some 8), .assign (.tmp 30), none⟩]
def K2_DensityProducts_r6 : List SO := [⟨(some 32), .move (.tmp 0), none⟩,
  ⟨(some 33), .move (.tmp 1), none⟩,
  ⟨(some 34), .binOp .mul 3 (.tmp 32) (.tmp 33) 3, none⟩,
  ⟨(some 35), .call ⟨(.value (.func 10)), #[(.tmp 34)], #[3]⟩, none⟩,
  ⟨(some 31), .move (.tmp 35), none⟩,
  ⟨(some 36), .extract (.tmp 31) 0, none⟩,
  ⟨(some 37), .extract (.tmp 31) 1, none⟩,
  ⟨(some 9), .assign (.tmp 36), none⟩,
  ⟨(some 10), .assign (.tmp 37), none⟩]
def K2_DensityProducts_r7 : List SO := [⟨(some 39), .move (.tmp 0), none⟩,
  ⟨(some 40), .binOp .mul 3 (.const (.int .i64 2)) (.tmp 39) 3, none⟩,
  ⟨(some 41), .call ⟨(.value (.func 10)), #[(.tmp 40)], #[3]⟩, none⟩,
  ⟨(some 38), .move (.tmp 41), none⟩,
  ⟨(some 42), .extract (.tmp 38) 0, none⟩,
  ⟨(some 43), .extract (.tmp 38) 1, none⟩,
  ⟨(some 11), .assign (.tmp 42), none⟩,
  ⟨(some 12), .assign (.tmp 43), none⟩]
def K2_DensityProducts_r8 : List SO := [⟨(some 44), .move (.tmp 6), none⟩,
  ⟨(some 45), .binOp .neq 24 (.tmp 44) (.const (.int .i64 0)) 24, none⟩,
  ⟨(some 46), .move (.tmp 45), none⟩,
  ⟨(some 47), .move (.tmp 8), (some (46, false))⟩,
  ⟨(some 48), .binOp .neq 24 (.tmp 47) (.const (.int .i64 0)) 24, (some (46, false))⟩,
  ⟨(some 49), .pick (.tmp 46) (.const (.bool true)) (.tmp 48), none⟩,
  ⟨(some 50), .move (.tmp 49), none⟩,
  ⟨(some 51), .move (.tmp 10), (some (50, false))⟩,
  ⟨(some 52), .binOp .neq 24 (.tmp 51) (.const (.int .i64 0)) 24, (some (50, false))⟩,
  ⟨(some 53), .pick (.tmp 50) (.const (.bool true)) (.tmp 52), none⟩,
  ⟨(some 54), .move (.tmp 53), none⟩,
  ⟨(some 55), .move (.tmp 12), (some (54, false))⟩,
  ⟨(some 56), .binOp .neq 24 (.tmp 55) (.const (.int .i64 0)) 24, (some (54, false))⟩,
  ⟨(some 57), .pick (.tmp 54) (.const (.bool true)) (.tmp 56), none⟩]
def K2_DensityProducts_r9 : List SO := [⟨(some 4), .assign (.const (.bool false)), none⟩]
def K2_DensityProducts_r10 : List SO := [⟨(some 58), .move (.tmp 9), none⟩,
  ⟨(some 59), .move (.tmp 5), none⟩,
  ⟨(some 60), .binOp .sub 3 (.tmp 58) (.tmp 59) 3, none⟩,
  ⟨(some 61), .move (.tmp 7), none⟩,
  ⟨(some 62), .binOp .sub 3 (.tmp 60) (.tmp 61) 3, none⟩,
  ⟨(some 63), .binOp .geq 3 (.tmp 62) (.const (.int .i64 (-1))) 3, none⟩,
  ⟨(some 64), .move (.tmp 63), none⟩,
  ⟨(some 65), .move (.tmp 9), (some (64, true))⟩,
  ⟨(some 66), .move (.tmp 5), (some (64, true))⟩,
  ⟨(some 67), .binOp .sub 3 (.tmp 65) (.tmp 66) 3, (some (64, true))⟩,
  ⟨(some 68), .move (.tmp 7), (some (64, true))⟩,
  ⟨(some 69), .binOp .sub 3 (.tmp 67) (.tmp 68) 3, (some (64, true))⟩,
  ⟨(some 70), .binOp .leq 3 (.tmp 69) (.const (.int .i64 2)) 3, (some (64, true))⟩,
  ⟨(some 71), .pick (.tmp 64) (.tmp 70) (.const (.bool false)), none⟩,
  ⟨(some 72), .move (.tmp 71), none⟩,
  ⟨(some 73), .move (.tmp 11), (some (72, true))⟩,
  ⟨(some 74), .move (.tmp 5), (some (72, true))⟩,
  ⟨(some 75), .binOp .add 3 (.tmp 74) (.const (.int .i64 65536)) 3, (some (72, true))⟩,
  ⟨(some 76), .binOp .eql 3 (.tmp 73) (.tmp 75) 3, (some (72, true))⟩,
  ⟨(some 77), .pick (.tmp 72) (.tmp 76) (.const (.bool false)), none⟩,
  ⟨(some 4), .assign (.tmp 77), none⟩]
def K2_DensityProducts_c : SF := ⟨78, (.seq (.reg K2_DensityProducts_r0)
  (.seq (.seq (.reg K2_DensityProducts_r1)
  (.cond (.tmp 14) (.seq (.reg K2_DensityProducts_r2)
  .ret) .skip))
  (.seq (.reg K2_DensityProducts_r3)
  (.seq (.reg K2_DensityProducts_r4)
  (.seq (.reg K2_DensityProducts_r5)
  (.seq (.reg K2_DensityProducts_r6)
  (.seq (.reg K2_DensityProducts_r7)
  (.seq (.seq (.reg K2_DensityProducts_r8)
  (.cond (.tmp 57) (.seq (.reg K2_DensityProducts_r9)
  .ret) .skip))
  (.seq (.reg K2_DensityProducts_r10)
  .ret))))))))), [.tmp 4]⟩
theorem K2_DensityProducts_s : slimF Try.prog 3 = some K2_DensityProducts_c := by kernel_rfl
def K2_DensityReturns_r0 : List SO := [⟨(some 4), .assign (.const (.bool false)), none⟩]
def K2_DensityReturns_r1 : List SO := [⟨(some 9), .call ⟨(.value (.func 8)), #[], #[]⟩, none⟩,
  ⟨(some 10), .unOp .not 4 (.tmp 9), none⟩]
def K2_DensityReturns_r2 : List SO := [⟨(some 4), .assign (.const (.bool false)), none⟩]
def K2_DensityReturns_r3 : List SO := [⟨(some 11), .move (.tmp 0), none⟩,
  ⟨(some 12), .call ⟨(.value (.func 9)), #[(.tmp 11), (.const (.int .i64 256))], #[3, 3]⟩, none⟩,
  ⟨(some 13), .move (.tmp 1), none⟩,
  ⟨(some 14), .call ⟨(.value (.func 9)), #[(.tmp 13), (.const (.int .i64 999745))], #[3, 3]⟩, none⟩,
  ⟨(some 15), .binOp .add 3 (.const (.int .i64 1)) (.tmp 14) 3, none⟩,
  ⟨(some 0), .assign (.tmp 12), none⟩,
  ⟨(some 1), .assign (.tmp 15), none⟩]
def K2_DensityReturns_r4 : List SO := [⟨(some 17), .move (.tmp 0), none⟩,
  ⟨(some 18), .move (.tmp 1), none⟩,
  ⟨(some 19), .call ⟨(.value (.func 11)), #[(.tmp 17), (.tmp 18)], #[3, 3]⟩, none⟩,
  ⟨(some 16), .move (.tmp 19), none⟩,
  ⟨(some 20), .extract (.tmp 16) 0, none⟩,
  ⟨(some 21), .extract (.tmp 16) 1, none⟩,
  ⟨(some 5), .assign (.tmp 20), none⟩,
  ⟨(some 6), .assign (.tmp 21), none⟩]
def K2_DensityReturns_r5 : List SO := [⟨(some 23), .move (.tmp 5), none⟩,
  ⟨(some 24), .move (.tmp 1), none⟩,
  ⟨(some 25), .call ⟨(.value (.func 12)), #[(.tmp 23), (.tmp 24)], #[3, 3]⟩, none⟩,
  ⟨(some 22), .move (.tmp 25), none⟩,
  ⟨(some 26), .extract (.tmp 22) 0, none⟩,
  ⟨(some 27), .extract (.tmp 22) 1, none⟩,
  ⟨(some 7), .assign (.tmp 26), none⟩,
  ⟨(some 8), .assign (.tmp 27), none⟩]
def K2_DensityReturns_r6 : List SO := [⟨(some 28), .move (.tmp 6), none⟩,
  ⟨(some 29), .binOp .eql 24 (.tmp 28) (.const (.int .i64 0)) 24, none⟩,
  ⟨(some 30), .move (.tmp 29), none⟩,
  ⟨(some 31), .move (.tmp 8), (some (30, true))⟩,
  ⟨(some 32), .binOp .eql 24 (.tmp 31) (.const (.int .i64 0)) 24, (some (30, true))⟩,
  ⟨(some 33), .pick (.tmp 30) (.tmp 32) (.const (.bool false)), none⟩,
  ⟨(some 34), .move (.tmp 33), none⟩,
  ⟨(some 35), .move (.tmp 7), (some (34, true))⟩,
  ⟨(some 36), .move (.tmp 0), (some (34, true))⟩,
  ⟨(some 37), .binOp .eql 3 (.tmp 35) (.tmp 36) 3, (some (34, true))⟩,
  ⟨(some 38), .pick (.tmp 34) (.tmp 37) (.const (.bool false)), none⟩,
  ⟨(some 4), .assign (.tmp 38), none⟩]
def K2_DensityReturns_c : SF := ⟨39, (.seq (.reg K2_DensityReturns_r0)
  (.seq (.seq (.reg K2_DensityReturns_r1)
  (.cond (.tmp 10) (.seq (.reg K2_DensityReturns_r2)
  .ret) .skip))
  (.seq (.reg K2_DensityReturns_r3)
  (.seq (.reg K2_DensityReturns_r4)
  (.seq (.reg K2_DensityReturns_r5)
  (.seq (.reg K2_DensityReturns_r6)
  .ret)))))), [.tmp 4]⟩
theorem K2_DensityReturns_s : slimF Try.prog 4 = some K2_DensityReturns_c := by kernel_rfl
def K2_DensityGalois_r0 : List SO := [⟨(some 2), .assign (.const (.bool false)), none⟩]
def K2_DensityGalois_r1 : List SO := [⟨(some 9), .call ⟨(.value (.func 8)), #[], #[]⟩, none⟩,
  ⟨(some 10), .unOp .not 4 (.tmp 9), none⟩]
def K2_DensityGalois_r2 : List SO := [⟨(some 2), .assign (.const (.bool false)), none⟩]
def K2_DensityGalois_r3 : List SO := [⟨(some 12), .move (.tmp 0), none⟩,
  ⟨(some 13), .call ⟨(.value (.func 13)), #[(.tmp 12)], #[3]⟩, none⟩,
  ⟨(some 11), .move (.tmp 13), none⟩,
  ⟨(some 14), .extract (.tmp 11) 0, none⟩,
  ⟨(some 15), .extract (.tmp 11) 1, none⟩,
  ⟨(some 3), .assign (.tmp 14), none⟩,
  ⟨(some 4), .assign (.tmp 15), none⟩]
def K2_DensityGalois_r4 : List SO := [⟨(some 16), .move (.tmp 0), none⟩,
  ⟨(some 17), .binOp .lss 3 (.tmp 16) (.const (.int .i64 0)) 3, none⟩,
  ⟨(some 18), .move (.tmp 17), none⟩,
  ⟨(some 19), .move (.tmp 0), (some (18, false))⟩,
  ⟨(some 20), .binOp .gtr 3 (.tmp 19) (.const (.int .i64 6000)) 3, (some (18, false))⟩,
  ⟨(some 21), .pick (.tmp 18) (.const (.bool true)) (.tmp 20), none⟩]
def K2_DensityGalois_r5 : List SO := [⟨(some 22), .move (.tmp 4), none⟩,
  ⟨(some 23), .binOp .eql 24 (.tmp 22) (.const (.int .i64 3)) 24, none⟩,
  ⟨(some 24), .move (.tmp 23), none⟩,
  ⟨(some 25), .move (.tmp 3), (some (24, true))⟩,
  ⟨(some 26), .binOp .eql 3 (.tmp 25) (.const (.int .i64 0)) 3, (some (24, true))⟩,
  ⟨(some 27), .pick (.tmp 24) (.tmp 26) (.const (.bool false)), none⟩,
  ⟨(some 2), .assign (.tmp 27), none⟩]
def K2_DensityGalois_r6 : List SO := [⟨(some 29), .call ⟨(.value (.func 14)), #[(.const (.int .i64 1))], #[3]⟩, none⟩,
  ⟨(some 28), .move (.tmp 29), none⟩,
  ⟨(some 30), .extract (.tmp 28) 0, none⟩,
  ⟨(some 31), .extract (.tmp 28) 1, none⟩,
  ⟨(some 5), .assign (.tmp 30), none⟩,
  ⟨(some 6), .assign (.tmp 31), none⟩]
def K2_DensityGalois_r7 : List SO := [⟨(some 32), .move (.tmp 6), none⟩,
  ⟨(some 33), .binOp .neq 24 (.tmp 32) (.const (.int .i64 0)) 24, none⟩]
def K2_DensityGalois_r8 : List SO := [⟨(some 2), .assign (.const (.bool false)), none⟩]
def K2_DensityGalois_r9 : List SO := [⟨(some 34), .move (.tmp 5), none⟩,
  ⟨(some 35), .move (.tmp 0), none⟩,
  ⟨(some 36), .binOp .lss 3 (.tmp 34) (.tmp 35) 3, none⟩]
def K2_DensityGalois_r10 : List SO := [⟨(some 37), .move (.tmp 4), none⟩,
  ⟨(some 38), .binOp .eql 24 (.tmp 37) (.const (.int .i64 8)) 24, none⟩,
  ⟨(some 39), .move (.tmp 38), none⟩,
  ⟨(some 40), .move (.tmp 3), (some (39, true))⟩,
  ⟨(some 41), .binOp .eql 3 (.tmp 40) (.const (.int .i64 0)) 3, (some (39, true))⟩,
  ⟨(some 42), .pick (.tmp 39) (.tmp 41) (.const (.bool false)), none⟩,
  ⟨(some 2), .assign (.tmp 42), none⟩]
def K2_DensityGalois_r11 : List SO := [⟨(some 44), .move (.tmp 3), none⟩,
  ⟨(some 45), .call ⟨(.value (.func 14)), #[(.tmp 44)], #[3]⟩, none⟩,
  ⟨(some 43), .move (.tmp 45), none⟩,
  ⟨(some 46), .extract (.tmp 43) 0, none⟩,
  ⟨(some 47), .extract (.tmp 43) 1, none⟩,
  ⟨(some 7), .assign (.tmp 46), none⟩,
  ⟨(some 8), .assign (.tmp 47), none⟩]
def K2_DensityGalois_r12 : List SO := [⟨(some 48), .move (.tmp 4), none⟩,
  ⟨(some 49), .binOp .neq 24 (.tmp 48) (.const (.int .i64 0)) 24, none⟩,
  ⟨(some 50), .move (.tmp 49), none⟩,
  ⟨(some 51), .move (.tmp 8), (some (50, false))⟩,
  ⟨(some 52), .binOp .neq 24 (.tmp 51) (.const (.int .i64 0)) 24, (some (50, false))⟩,
  ⟨(some 53), .pick (.tmp 50) (.const (.bool true)) (.tmp 52), none⟩,
  ⟨(some 54), .move (.tmp 53), none⟩,
  ⟨(some 55), .move (.tmp 7), (some (54, false))⟩,
  ⟨(some 56), .move (.tmp 0), (some (54, false))⟩,
  ⟨(some 57), .binOp .lss 3 (.tmp 55) (.tmp 56) 3, (some (54, false))⟩,
  ⟨(some 58), .pick (.tmp 54) (.const (.bool true)) (.tmp 57), none⟩]
def K2_DensityGalois_r13 : List SO := [⟨(some 2), .assign (.const (.bool false)), none⟩]
def K2_DensityGalois_r14 : List SO := [⟨(some 59), .move (.tmp 3), none⟩,
  ⟨(some 60), .binOp .eql 3 (.tmp 59) (.const (.int .i64 1000000)) 3, none⟩]
def K2_DensityGalois_r15 : List SO := [⟨(some 2), .assign (.const (.bool true)), none⟩]
def K2_DensityGalois_r16 : List SO := [⟨(some 62), .move (.tmp 3), none⟩,
  ⟨(some 63), .binOp .add 3 (.tmp 62) (.const (.int .i64 1)) 3, none⟩,
  ⟨(some 64), .call ⟨(.value (.func 14)), #[(.tmp 63)], #[3]⟩, none⟩,
  ⟨(some 61), .move (.tmp 64), none⟩,
  ⟨(some 65), .extract (.tmp 61) 0, none⟩,
  ⟨(some 66), .extract (.tmp 61) 1, none⟩,
  ⟨(some 7), .assign (.tmp 65), none⟩,
  ⟨(some 8), .assign (.tmp 66), none⟩]
def K2_DensityGalois_r17 : List SO := [⟨(some 67), .move (.tmp 8), none⟩,
  ⟨(some 68), .binOp .eql 24 (.tmp 67) (.const (.int .i64 0)) 24, none⟩,
  ⟨(some 69), .move (.tmp 68), none⟩,
  ⟨(some 70), .move (.tmp 7), (some (69, true))⟩,
  ⟨(some 71), .move (.tmp 0), (some (69, true))⟩,
  ⟨(some 72), .binOp .lss 3 (.tmp 70) (.tmp 71) 3, (some (69, true))⟩,
  ⟨(some 73), .pick (.tmp 69) (.tmp 72) (.const (.bool false)), none⟩,
  ⟨(some 2), .assign (.tmp 73), none⟩]
def K2_DensityGalois_c : SF := ⟨74, (.seq (.reg K2_DensityGalois_r0)
  (.seq (.seq (.reg K2_DensityGalois_r1)
  (.cond (.tmp 10) (.seq (.reg K2_DensityGalois_r2)
  .ret) .skip))
  (.seq (.reg K2_DensityGalois_r3)
  (.seq (.seq (.reg K2_DensityGalois_r4)
  (.cond (.tmp 21) (.seq (.reg K2_DensityGalois_r5)
  .ret) .skip))
  (.seq (.reg K2_DensityGalois_r6)
  (.seq (.seq (.reg K2_DensityGalois_r7)
  (.cond (.tmp 33) (.seq (.reg K2_DensityGalois_r8)
  .ret) .skip))
  (.seq (.seq (.reg K2_DensityGalois_r9)
  (.cond (.tmp 36) (.seq (.reg K2_DensityGalois_r10)
  .ret) .skip))
  (.seq (.reg K2_DensityGalois_r11)
  (.seq (.seq (.reg K2_DensityGalois_r12)
  (.cond (.tmp 58) (.seq (.reg K2_DensityGalois_r13)
  .ret) .skip))
  (.seq (.seq (.reg K2_DensityGalois_r14)
  (.cond (.tmp 60) (.seq (.reg K2_DensityGalois_r15)
  .ret) .skip))
  (.seq (.reg K2_DensityGalois_r16)
  (.seq (.reg K2_DensityGalois_r17)
  .ret)))))))))))), [.tmp 2]⟩
theorem K2_DensityGalois_s : slimF Try.prog 5 = some K2_DensityGalois_c := by kernel_rfl
def K2_CurveGalois_r0 : List SO := [⟨(some 2), .box 32 (.tmp 0), none⟩,
  ⟨(some 4), .assign (.const (.bool false)), none⟩]
def K2_CurveGalois_r1 : List SO := [⟨(some 9), .call ⟨(.value (.func 15)), #[], #[]⟩, none⟩,
  ⟨(some 10), .unOp .not 4 (.tmp 9), none⟩]
def K2_CurveGalois_r2 : List SO := [⟨(some 4), .assign (.const (.bool false)), none⟩]
def K2_CurveGalois_r3 : List SO := [⟨(some 12), .load 32 (.tmp 2), none⟩,
  ⟨(some 13), .move (.tmp 1), none⟩,
  ⟨(some 14), .call ⟨(.value (.func 16)), #[(.tmp 12), (.tmp 13)], #[32, 3]⟩, none⟩,
  ⟨(some 11), .move (.tmp 14), none⟩,
  ⟨(some 15), .extract (.tmp 11) 0, none⟩,
  ⟨(some 16), .extract (.tmp 11) 1, none⟩,
  ⟨(some 5), .assign (.tmp 15), none⟩,
  ⟨(some 6), .assign (.tmp 16), none⟩]
def K2_CurveGalois_r4 : List SO := [⟨(some 17), .move (.tmp 6), none⟩,
  ⟨(some 18), .binOp .neq 24 (.tmp 17) (.const (.int .i64 0)) 24, none⟩]
def K2_CurveGalois_r5 : List SO := [⟨(some 19), .move (.tmp 5), none⟩,
  ⟨(some 20), .binOp .eql 3 (.tmp 19) (.const (.int .i64 0)) 3, none⟩,
  ⟨(some 4), .assign (.tmp 20), none⟩]
def K2_CurveGalois_r6 : List SO := [⟨(some 22), .load 32 (.tmp 2), none⟩,
  ⟨(some 23), .move (.tmp 5), none⟩,
  ⟨(some 24), .call ⟨(.value (.func 17)), #[(.tmp 22), (.tmp 23)], #[32, 3]⟩, none⟩,
  ⟨(some 21), .move (.tmp 24), none⟩,
  ⟨(some 25), .extract (.tmp 21) 0, none⟩,
  ⟨(some 26), .extract (.tmp 21) 1, none⟩,
  ⟨(some 7), .assign (.tmp 25), none⟩,
  ⟨(some 8), .assign (.tmp 26), none⟩]
def K2_CurveGalois_r7 : List SO := [⟨(some 27), .move (.tmp 8), none⟩,
  ⟨(some 28), .binOp .neq 24 (.tmp 27) (.const (.int .i64 0)) 24, none⟩,
  ⟨(some 29), .move (.tmp 28), none⟩,
  ⟨(some 30), .move (.tmp 7), (some (29, false))⟩,
  ⟨(some 31), .move (.tmp 1), (some (29, false))⟩,
  ⟨(some 32), .binOp .lss 3 (.tmp 30) (.tmp 31) 3, (some (29, false))⟩,
  ⟨(some 33), .pick (.tmp 29) (.const (.bool true)) (.tmp 32), none⟩]
def K2_CurveGalois_r8 : List SO := [⟨(some 4), .assign (.const (.bool false)), none⟩]
def K2_CurveGalois_r9 : List SO := [⟨(some 34), .move (.tmp 5), none⟩,
  ⟨(some 35), .binOp .eql 3 (.tmp 34) (.const (.int .i64 0)) 3, none⟩]
def K2_CurveGalois_r10 : List SO := [⟨(some 4), .assign (.const (.bool true)), none⟩]
def K2_CurveGalois_r11 : List SO := [⟨(some 37), .load 32 (.tmp 2), none⟩,
  ⟨(some 38), .move (.tmp 5), none⟩,
  ⟨(some 39), .binOp .sub 3 (.tmp 38) (.const (.int .i64 1)) 3, none⟩,
  ⟨(some 40), .call ⟨(.value (.func 17)), #[(.tmp 37), (.tmp 39)], #[32, 3]⟩, none⟩,
  ⟨(some 36), .move (.tmp 40), none⟩,
  ⟨(some 41), .extract (.tmp 36) 0, none⟩,
  ⟨(some 42), .extract (.tmp 36) 1, none⟩,
  ⟨(some 7), .assign (.tmp 41), none⟩,
  ⟨(some 8), .assign (.tmp 42), none⟩]
def K2_CurveGalois_r12 : List SO := [⟨(some 43), .move (.tmp 8), none⟩,
  ⟨(some 44), .binOp .eql 24 (.tmp 43) (.const (.int .i64 0)) 24, none⟩,
  ⟨(some 45), .move (.tmp 44), none⟩,
  ⟨(some 46), .move (.tmp 7), (some (45, true))⟩,
  ⟨(some 47), .move (.tmp 1), (some (45, true))⟩,
  ⟨(some 48), .binOp .lss 3 (.tmp 46) (.tmp 47) 3, (some (45, true))⟩,
  ⟨(some 49), .pick (.tmp 45) (.tmp 48) (.const (.bool false)), none⟩,
  ⟨(some 4), .assign (.tmp 49), none⟩]
def K2_CurveGalois_c : SF := ⟨50, (.seq (.reg K2_CurveGalois_r0)
  (.seq (.seq (.reg K2_CurveGalois_r1)
  (.cond (.tmp 10) (.seq (.reg K2_CurveGalois_r2)
  .ret) .skip))
  (.seq (.reg K2_CurveGalois_r3)
  (.seq (.seq (.reg K2_CurveGalois_r4)
  (.cond (.tmp 18) (.seq (.reg K2_CurveGalois_r5)
  .ret) .skip))
  (.seq (.reg K2_CurveGalois_r6)
  (.seq (.seq (.reg K2_CurveGalois_r7)
  (.cond (.tmp 33) (.seq (.reg K2_CurveGalois_r8)
  .ret) .skip))
  (.seq (.seq (.reg K2_CurveGalois_r9)
  (.cond (.tmp 35) (.seq (.reg K2_CurveGalois_r10)
  .ret) .skip))
  (.seq (.reg K2_CurveGalois_r11)
  (.seq (.reg K2_CurveGalois_r12)
  .ret))))))))), [.tmp 4]⟩
theorem K2_CurveGalois_s : slimF Try.prog 6 = some K2_CurveGalois_c := by kernel_rfl
def K2_CurveMonotone_r0 : List SO := [⟨(some 3), .box 32 (.tmp 0), none⟩,
  ⟨(some 6), .assign (.const (.bool false)), none⟩]
def K2_CurveMonotone_r1 : List SO := [⟨(some 11), .call ⟨(.value (.func 15)), #[], #[]⟩, none⟩,
  ⟨(some 12), .unOp .not 4 (.tmp 11), none⟩]
def K2_CurveMonotone_r2 : List SO := [⟨(some 6), .assign (.const (.bool false)), none⟩]
def K2_CurveMonotone_r3 : List SO := [⟨(some 14), .load 32 (.tmp 3), none⟩,
  ⟨(some 15), .move (.tmp 1), none⟩,
  ⟨(some 16), .move (.tmp 2), none⟩,
  ⟨(some 17), .call ⟨(.builtin .min), #[(.tmp 15), (.tmp 16)], #[3, 3]⟩, none⟩,
  ⟨(some 18), .call ⟨(.value (.func 17)), #[(.tmp 14), (.tmp 17)], #[32, 3]⟩, none⟩,
  ⟨(some 13), .move (.tmp 18), none⟩,
  ⟨(some 19), .extract (.tmp 13) 0, none⟩,
  ⟨(some 20), .extract (.tmp 13) 1, none⟩,
  ⟨(some 7), .assign (.tmp 19), none⟩,
  ⟨(some 8), .assign (.tmp 20), none⟩]
def K2_CurveMonotone_r4 : List SO := [⟨(some 22), .load 32 (.tmp 3), none⟩,
  ⟨(some 23), .move (.tmp 1), none⟩,
  ⟨(some 24), .move (.tmp 2), none⟩,
  ⟨(some 25), .call ⟨(.builtin .max), #[(.tmp 23), (.tmp 24)], #[3, 3]⟩, none⟩,
  ⟨(some 26), .call ⟨(.value (.func 17)), #[(.tmp 22), (.tmp 25)], #[32, 3]⟩, none⟩,
  ⟨(some 21), .move (.tmp 26), none⟩,
  ⟨(some 27), .extract (.tmp 21) 0, none⟩,
  ⟨(some 28), .extract (.tmp 21) 1, none⟩,
  ⟨(some 9), .assign (.tmp 27), none⟩,
  ⟨(some 10), .assign (.tmp 28), none⟩]
def K2_CurveMonotone_r5 : List SO := [⟨(some 29), .move (.tmp 8), none⟩,
  ⟨(some 30), .binOp .neq 24 (.tmp 29) (.const (.int .i64 0)) 24, none⟩,
  ⟨(some 31), .move (.tmp 30), none⟩,
  ⟨(some 32), .move (.tmp 10), (some (31, false))⟩,
  ⟨(some 33), .binOp .neq 24 (.tmp 32) (.const (.int .i64 0)) 24, (some (31, false))⟩,
  ⟨(some 34), .pick (.tmp 31) (.const (.bool true)) (.tmp 33), none⟩]
def K2_CurveMonotone_r6 : List SO := [⟨(some 35), .move (.tmp 8), none⟩,
  ⟨(some 36), .move (.tmp 10), none⟩,
  ⟨(some 37), .binOp .eql 24 (.tmp 35) (.tmp 36) 24, none⟩,
  ⟨(some 38), .move (.tmp 37), none⟩,
  ⟨(some 39), .move (.tmp 1), (some (38, false))⟩,
  ⟨(some 40), .move (.tmp 2), (some (38, false))⟩,
  ⟨(some 41), .binOp .neq 3 (.tmp 39) (.tmp 40) 3, (some (38, false))⟩,
  ⟨(some 42), .pick (.tmp 38) (.const (.bool true)) (.tmp 41), none⟩,
  ⟨(some 6), .assign (.tmp 42), none⟩]
def K2_CurveMonotone_r7 : List SO := [⟨(some 43), .move (.tmp 7), none⟩,
  ⟨(some 44), .binOp .leq 3 (.const (.int .i64 0)) (.tmp 43) 3, none⟩,
  ⟨(some 45), .move (.tmp 44), none⟩,
  ⟨(some 46), .move (.tmp 7), (some (45, true))⟩,
  ⟨(some 47), .move (.tmp 9), (some (45, true))⟩,
  ⟨(some 48), .binOp .leq 3 (.tmp 46) (.tmp 47) 3, (some (45, true))⟩,
  ⟨(some 49), .pick (.tmp 45) (.tmp 48) (.const (.bool false)), none⟩,
  ⟨(some 50), .move (.tmp 49), none⟩,
  ⟨(some 51), .move (.tmp 9), (some (50, true))⟩,
  ⟨(some 52), .binOp .leq 3 (.tmp 51) (.const (.int .i64 65280)) 3, (some (50, true))⟩,
  ⟨(some 53), .pick (.tmp 50) (.tmp 52) (.const (.bool false)), none⟩,
  ⟨(some 6), .assign (.tmp 53), none⟩]
def K2_CurveMonotone_c : SF := ⟨54, (.seq (.reg K2_CurveMonotone_r0)
  (.seq (.seq (.reg K2_CurveMonotone_r1)
  (.cond (.tmp 12) (.seq (.reg K2_CurveMonotone_r2)
  .ret) .skip))
  (.seq (.reg K2_CurveMonotone_r3)
  (.seq (.reg K2_CurveMonotone_r4)
  (.seq (.seq (.reg K2_CurveMonotone_r5)
  (.cond (.tmp 34) (.seq (.reg K2_CurveMonotone_r6)
  .ret) .skip))
  (.seq (.reg K2_CurveMonotone_r7)
  .ret)))))), [.tmp 6]⟩
theorem K2_CurveMonotone_s : slimF Try.prog 7 = some K2_CurveMonotone_c := by kernel_rfl
def K2_densityWorks_r0 : List SO := [⟨(some 0), .assign (.const (.bool false)), none⟩]
def K2_densityWorks_r1 : List SO := [⟨(some 12), .call ⟨(.value (.func 10)), #[(.const (.int .i64 3))], #[3]⟩, none⟩,
  ⟨(some 11), .move (.tmp 12), none⟩,
  ⟨(some 13), .extract (.tmp 11) 0, none⟩,
  ⟨(some 14), .extract (.tmp 11) 1, none⟩,
  ⟨(some 1), .assign (.tmp 13), none⟩,
  ⟨(some 2), .assign (.tmp 14), none⟩]
def K2_densityWorks_r2 : List SO := [⟨(some 16), .call ⟨(.value (.func 14)), #[(.const (.int .i64 100000))], #[3]⟩, none⟩,
  ⟨(some 15), .move (.tmp 16), none⟩,
  ⟨(some 17), .extract (.tmp 15) 0, none⟩,
  ⟨(some 18), .extract (.tmp 15) 1, none⟩,
  ⟨(some 3), .assign (.tmp 17), none⟩,
  ⟨(some 4), .assign (.tmp 18), none⟩]
def K2_densityWorks_r3 : List SO := [⟨(some 20), .call ⟨(.value (.func 11)), #[(.const (.int .i64 128)), (.const (.int .i64 100000))], #[3, 3]⟩, none⟩,
  ⟨(some 19), .move (.tmp 20), none⟩,
  ⟨(some 21), .extract (.tmp 19) 0, none⟩,
  ⟨(some 22), .extract (.tmp 19) 1, none⟩,
  ⟨(some 5), .assign (.tmp 21), none⟩,
  ⟨(some 6), .assign (.tmp 22), none⟩]
def K2_densityWorks_r4 : List SO := [⟨(some 24), .call ⟨(.value (.func 12)), #[(.const (.int .i64 548235)), (.const (.int .i64 100000))], #[3, 3]⟩, none⟩,
  ⟨(some 23), .move (.tmp 24), none⟩,
  ⟨(some 25), .extract (.tmp 23) 0, none⟩,
  ⟨(some 26), .extract (.tmp 23) 1, none⟩,
  ⟨(some 7), .assign (.tmp 25), none⟩,
  ⟨(some 8), .assign (.tmp 26), none⟩]
def K2_densityWorks_r5 : List SO := [⟨(some 28), .call ⟨(.value (.func 18)), #[(.const (.int .i64 548235)), (.const (.int .i64 100000))], #[3, 3]⟩, none⟩,
  ⟨(some 27), .move (.tmp 28), none⟩,
  ⟨(some 29), .extract (.tmp 27) 0, none⟩,
  ⟨(some 30), .extract (.tmp 27) 1, none⟩,
  ⟨(some 9), .assign (.tmp 29), none⟩,
  ⟨(some 10), .assign (.tmp 30), none⟩]
def K2_densityWorks_r6 : List SO := [⟨(some 31), .move (.tmp 2), none⟩,
  ⟨(some 32), .binOp .eql 24 (.tmp 31) (.const (.int .i64 0)) 24, none⟩,
  ⟨(some 33), .move (.tmp 32), none⟩,
  ⟨(some 34), .move (.tmp 1), (some (33, true))⟩,
  ⟨(some 35), .binOp .eql 3 (.tmp 34) (.const (.int .i64 103872)) 3, (some (33, true))⟩,
  ⟨(some 36), .pick (.tmp 33) (.tmp 35) (.const (.bool false)), none⟩,
  ⟨(some 37), .move (.tmp 36), none⟩,
  ⟨(some 38), .move (.tmp 4), (some (37, true))⟩,
  ⟨(some 39), .binOp .eql 24 (.tmp 38) (.const (.int .i64 0)) 24, (some (37, true))⟩,
  ⟨(some 40), .pick (.tmp 37) (.tmp 39) (.const (.bool false)), none⟩,
  ⟨(some 41), .move (.tmp 40), none⟩,
  ⟨(some 42), .move (.tmp 3), (some (41, true))⟩,
  ⟨(some 43), .binOp .eql 3 (.tmp 42) (.const (.int .i64 1000)) 3, (some (41, true))⟩,
  ⟨(some 44), .pick (.tmp 41) (.tmp 43) (.const (.bool false)), none⟩,
  ⟨(some 45), .move (.tmp 44), none⟩,
  ⟨(some 46), .move (.tmp 6), (some (45, true))⟩,
  ⟨(some 47), .binOp .eql 24 (.tmp 46) (.const (.int .i64 0)) 24, (some (45, true))⟩,
  ⟨(some 48), .pick (.tmp 45) (.tmp 47) (.const (.bool false)), none⟩,
  ⟨(some 49), .move (.tmp 48), none⟩,
  ⟨(some 50), .move (.tmp 5), (some (49, true))⟩,
  ⟨(some 51), .binOp .eql 3 (.tmp 50) (.const (.int .i64 548235)) 3, (some (49, true))⟩,
  ⟨(some 52), .pick (.tmp 49) (.tmp 51) (.const (.bool false)), none⟩,
  ⟨(some 53), .move (.tmp 52), none⟩,
  ⟨(some 54), .move (.tmp 8), (some (53, true))⟩,
  ⟨(some 55), .binOp .eql 24 (.tmp 54) (.const (.int .i64 0)) 24, (some (53, true))⟩,
  ⟨(some 56), .pick (.tmp 53) (.tmp 55) (.const (.bool false)), none⟩,
  ⟨(some 57), .move (.tmp 56), none⟩,
  ⟨(some 58), .move (.tmp 7), (some (57, true))⟩,
  ⟨(some 59), .binOp .eql 3 (.tmp 58) (.const (.int .i64 128)) 3, (some (57, true))⟩,
  ⟨(some 60), .pick (.tmp 57) (.tmp 59) (.const (.bool false)), none⟩,
  ⟨(some 61), .move (.tmp 60), none⟩,
  ⟨(some 62), .move (.tmp 10), (some (61, true))⟩,
  ⟨(some 63), .binOp .eql 24 (.tmp 62) (.const (.int .i64 0)) 24, (some (61, true))⟩,
  ⟨(some 64), .pick (.tmp 61) (.tmp 63) (.const (.bool false)), none⟩,
  ⟨(some 65), .move (.tmp 64), none⟩,
  ⟨(some 66), .move (.tmp 9), (some (65, true))⟩,
  ⟨(some 67), .binOp .eql 3 (.tmp 66) (.const (.int .i64 74)) 3, (some (65, true))⟩,
  ⟨(some 68), .pick (.tmp 65) (.tmp 67) (.const (.bool false)), none⟩,
  ⟨(some 0), .assign (.tmp 68), none⟩]
def K2_densityWorks_c : SF := ⟨69, (.seq (.reg K2_densityWorks_r0)
  (.seq (.reg K2_densityWorks_r1)
  (.seq (.reg K2_densityWorks_r2)
  (.seq (.reg K2_densityWorks_r3)
  (.seq (.reg K2_densityWorks_r4)
  (.seq (.reg K2_densityWorks_r5)
  (.seq (.reg K2_densityWorks_r6)
  .ret))))))), [.tmp 0]⟩
theorem K2_densityWorks_s : slimF Try.prog 8 = some K2_densityWorks_c := by kernel_rfl
def R2_Mod_r0 : List SO := [⟨(some 4), .assign (.const (.int .i64 0)), none⟩]
def R2_Mod_r1 : List SO := [⟨(some 5), .move (.tmp 0), none⟩,
  ⟨(some 6), .move (.tmp 1), none⟩,
  ⟨(some 7), .move (.tmp 0), none⟩,
  ⟨(some 8), .move (.tmp 1), none⟩,
  ⟨(some 9), .call ⟨(.value (.func 19)), #[(.tmp 7), (.tmp 8)], #[3, 3]⟩, none⟩,
  ⟨(some 10), .binOp .mul 3 (.tmp 6) (.tmp 9) 3, none⟩,
  ⟨(some 11), .binOp .sub 3 (.tmp 5) (.tmp 10) 3, none⟩,
  ⟨(some 4), .assign (.tmp 11), none⟩]
def R2_Mod_c : SF := ⟨12, (.seq (.reg R2_Mod_r0)
  (.seq (.reg R2_Mod_r1)
  .ret)), [.tmp 4]⟩
theorem R2_Mod_s : slimF Try.prog 9 = some R2_Mod_c := by kernel_rfl
def density_Log2_r0 : List SO := [⟨(some 2), .assign (.const (.int .i64 0)), none⟩,
  ⟨(some 3), .assign (.const (.int .i64 0)), none⟩]
def density_Log2_r1 : List SO := [⟨(some 4), .move (.tmp 0), none⟩,
  ⟨(some 5), .binOp .lss 3 (.tmp 4) (.const (.int .i64 1)) 3, none⟩,
  ⟨(some 6), .move (.tmp 5), none⟩,
  ⟨(some 7), .move (.tmp 0), (some (6, false))⟩,
  ⟨(some 8), .binOp .gtr 3 (.tmp 7) (.const (.int .i64 1099511627776)) 3, (some (6, false))⟩,
  ⟨(some 9), .pick (.tmp 6) (.const (.bool true)) (.tmp 8), none⟩]
def density_Log2_r2 : List SO := [⟨(some 2), .assign (.const (.int .i64 0)), none⟩,
  ⟨(some 3), .assign (.const (.int .i64 3)), none⟩]
def density_Log2_r3 : List SO := [⟨(some 10), .move (.tmp 0), none⟩,
  ⟨(some 11), .call ⟨(.value (.func 20)), #[(.tmp 10)], #[3]⟩, none⟩,
  ⟨(some 2), .assign (.tmp 11), none⟩,
  ⟨(some 3), .assign (.const (.int .i64 0)), none⟩]
def density_Log2_c : SF := ⟨12, (.seq (.reg density_Log2_r0)
  (.seq (.seq (.reg density_Log2_r1)
  (.cond (.tmp 9) (.seq (.reg density_Log2_r2)
  .ret) .skip))
  (.seq (.reg density_Log2_r3)
  .ret))), [.tmp 2, .tmp 3]⟩
theorem density_Log2_s : slimF Try.prog 10 = some density_Log2_c := by kernel_rfl
def density_Tint_r0 : List SO := [⟨(some 4), .assign (.const (.int .i64 0)), none⟩,
  ⟨(some 5), .assign (.const (.int .i64 0)), none⟩]
def density_Tint_r1 : List SO := [⟨(some 7), .move (.tmp 0), none⟩,
  ⟨(some 8), .binOp .lss 3 (.tmp 7) (.const (.int .i64 0)) 3, none⟩,
  ⟨(some 9), .move (.tmp 8), none⟩,
  ⟨(some 10), .move (.tmp 0), (some (9, false))⟩,
  ⟨(some 11), .binOp .gtr 3 (.tmp 10) (.const (.int .i64 255)) 3, (some (9, false))⟩,
  ⟨(some 12), .pick (.tmp 9) (.const (.bool true)) (.tmp 11), none⟩]
def density_Tint_r2 : List SO := [⟨(some 4), .assign (.const (.int .i64 0)), none⟩,
  ⟨(some 5), .assign (.const (.int .i64 3)), none⟩]
def density_Tint_r3 : List SO := [⟨(some 13), .move (.tmp 1), none⟩,
  ⟨(some 14), .call ⟨(.value (.func 21)), #[(.tmp 13)], #[3]⟩, none⟩,
  ⟨(some 6), .assign (.tmp 14), none⟩]
def density_Tint_r4 : List SO := [⟨(some 15), .move (.tmp 6), none⟩,
  ⟨(some 16), .binOp .neq 24 (.tmp 15) (.const (.int .i64 0)) 24, none⟩]
def density_Tint_r5 : List SO := [⟨(some 17), .move (.tmp 6), none⟩,
  ⟨(some 4), .assign (.const (.int .i64 0)), none⟩,
  ⟨(some 5), .assign (.tmp 17), none⟩]
def density_Tint_r6 : List SO := [⟨(some 18), .move (.tmp 0), none⟩,
  ⟨(some 19), .move (.tmp 1), none⟩,
  ⟨(some 20), .binOp .sub 3 (.const (.int .i64 1000000)) (.tmp 19) 3, none⟩,
  ⟨(some 21), .binOp .mul 3 (.tmp 18) (.tmp 20) 3, none⟩,
  ⟨(some 22), .call ⟨(.value (.func 22)), #[(.tmp 21), (.const (.int .i64 255))], #[3, 3]⟩, none⟩,
  ⟨(some 23), .binOp .sub 3 (.const (.int .i64 1000000)) (.tmp 22) 3, none⟩,
  ⟨(some 4), .assign (.tmp 23), none⟩,
  ⟨(some 5), .assign (.const (.int .i64 0)), none⟩]
def density_Tint_c : SF := ⟨24, (.seq (.reg density_Tint_r0)
  (.seq (.seq (.reg density_Tint_r1)
  (.cond (.tmp 12) (.seq (.reg density_Tint_r2)
  .ret) .skip))
  (.seq (.seq (.reg density_Tint_r3)
  (.seq (.reg density_Tint_r4)
  (.cond (.tmp 16) (.seq (.reg density_Tint_r5)
  .ret) .skip)))
  (.seq (.reg density_Tint_r6)
  .ret)))), [.tmp 4, .tmp 5]⟩
theorem density_Tint_s : slimF Try.prog 11 = some density_Tint_c := by kernel_rfl
def density_Area_r0 : List SO := [⟨(some 4), .assign (.const (.int .i64 0)), none⟩,
  ⟨(some 5), .assign (.const (.int .i64 0)), none⟩]
def density_Area_r1 : List SO := [⟨(some 7), .move (.tmp 0), none⟩,
  ⟨(some 8), .binOp .lss 3 (.tmp 7) (.const (.int .i64 1)) 3, none⟩,
  ⟨(some 9), .move (.tmp 8), none⟩,
  ⟨(some 10), .move (.tmp 0), (some (9, false))⟩,
  ⟨(some 11), .binOp .gtr 3 (.tmp 10) (.const (.int .i64 1000000)) 3, (some (9, false))⟩,
  ⟨(some 12), .pick (.tmp 9) (.const (.bool true)) (.tmp 11), none⟩]
def density_Area_r2 : List SO := [⟨(some 4), .assign (.const (.int .i64 0)), none⟩,
  ⟨(some 5), .assign (.const (.int .i64 3)), none⟩]
def density_Area_r3 : List SO := [⟨(some 13), .move (.tmp 1), none⟩,
  ⟨(some 14), .call ⟨(.value (.func 21)), #[(.tmp 13)], #[3]⟩, none⟩,
  ⟨(some 6), .assign (.tmp 14), none⟩]
def density_Area_r4 : List SO := [⟨(some 15), .move (.tmp 6), none⟩,
  ⟨(some 16), .binOp .neq 24 (.tmp 15) (.const (.int .i64 0)) 24, none⟩]
def density_Area_r5 : List SO := [⟨(some 17), .move (.tmp 6), none⟩,
  ⟨(some 4), .assign (.const (.int .i64 0)), none⟩,
  ⟨(some 5), .assign (.tmp 17), none⟩]
def density_Area_r6 : List SO := [⟨(some 18), .move (.tmp 0), none⟩,
  ⟨(some 19), .move (.tmp 1), none⟩,
  ⟨(some 20), .binOp .lss 3 (.tmp 18) (.tmp 19) 3, none⟩]
def density_Area_r7 : List SO := [⟨(some 4), .assign (.const (.int .i64 0)), none⟩,
  ⟨(some 5), .assign (.const (.int .i64 18)), none⟩]
def density_Area_r8 : List SO := [⟨(some 21), .move (.tmp 0), none⟩,
  ⟨(some 22), .binOp .sub 3 (.const (.int .i64 1000000)) (.tmp 21) 3, none⟩,
  ⟨(some 23), .binOp .mul 3 (.const (.int .i64 255)) (.tmp 22) 3, none⟩,
  ⟨(some 24), .move (.tmp 1), none⟩,
  ⟨(some 25), .binOp .sub 3 (.const (.int .i64 1000000)) (.tmp 24) 3, none⟩,
  ⟨(some 26), .call ⟨(.value (.func 22)), #[(.tmp 23), (.tmp 25)], #[3, 3]⟩, none⟩,
  ⟨(some 4), .assign (.tmp 26), none⟩,
  ⟨(some 5), .assign (.const (.int .i64 0)), none⟩]
def density_Area_c : SF := ⟨27, (.seq (.reg density_Area_r0)
  (.seq (.seq (.reg density_Area_r1)
  (.cond (.tmp 12) (.seq (.reg density_Area_r2)
  .ret) .skip))
  (.seq (.seq (.reg density_Area_r3)
  (.seq (.reg density_Area_r4)
  (.cond (.tmp 16) (.seq (.reg density_Area_r5)
  .ret) .skip)))
  (.seq (.seq (.reg density_Area_r6)
  (.cond (.tmp 20) (.seq (.reg density_Area_r7)
  .ret) .skip))
  (.seq (.reg density_Area_r8)
  .ret))))), [.tmp 4, .tmp 5]⟩
theorem density_Area_s : slimF Try.prog 12 = some density_Area_c := by kernel_rfl
def density_Reflectance_r0 : List SO := [⟨(some 2), .assign (.const (.int .i64 0)), none⟩,
  ⟨(some 3), .assign (.const (.int .i64 0)), none⟩]
def density_Reflectance_r1 : List SO := [⟨(some 7), .move (.tmp 0), none⟩,
  ⟨(some 8), .binOp .lss 3 (.tmp 7) (.const (.int .i64 0)) 3, none⟩,
  ⟨(some 9), .move (.tmp 8), none⟩,
  ⟨(some 10), .move (.tmp 0), (some (9, false))⟩,
  ⟨(some 11), .binOp .gtr 3 (.tmp 10) (.const (.int .i64 6000)) 3, (some (9, false))⟩,
  ⟨(some 12), .pick (.tmp 9) (.const (.bool true)) (.tmp 11), none⟩]
def density_Reflectance_r2 : List SO := [⟨(some 2), .assign (.const (.int .i64 0)), none⟩,
  ⟨(some 3), .assign (.const (.int .i64 3)), none⟩]
def density_Reflectance_r3 : List SO := [⟨(some 4), .assign (.const (.int .i64 1)), none⟩,
  ⟨(some 5), .assign (.const (.int .i64 1000001)), none⟩]
def density_Reflectance_r4 : List SO := [⟨(some 13), .move (.tmp 4), none⟩,
  ⟨(some 14), .call ⟨(.value (.func 23)), #[(.tmp 13)], #[3]⟩, none⟩,
  ⟨(some 15), .move (.tmp 0), none⟩,
  ⟨(some 16), .binOp .lss 3 (.tmp 14) (.tmp 15) 3, none⟩]
def density_Reflectance_r5 : List SO := [⟨(some 2), .assign (.const (.int .i64 0)), none⟩,
  ⟨(some 3), .assign (.const (.int .i64 8)), none⟩]
def density_Reflectance_r6 : List SO := [⟨(some 17), .move (.tmp 5), none⟩,
  ⟨(some 18), .move (.tmp 4), none⟩,
  ⟨(some 19), .binOp .sub 3 (.tmp 17) (.tmp 18) 3, none⟩,
  ⟨(some 20), .binOp .gtr 3 (.tmp 19) (.const (.int .i64 1)) 3, none⟩]
def density_Reflectance_r7 : List SO := [⟨(some 21), .move (.tmp 4), none⟩,
  ⟨(some 22), .move (.tmp 5), none⟩,
  ⟨(some 23), .binOp .add 3 (.tmp 21) (.tmp 22) 3, none⟩,
  ⟨(some 24), .binOp .quo 3 (.tmp 23) (.const (.int .i64 2)) 3, none⟩,
  ⟨(some 6), .assign (.tmp 24), none⟩]
def density_Reflectance_r8 : List SO := [⟨(some 25), .move (.tmp 6), none⟩,
  ⟨(some 26), .call ⟨(.value (.func 23)), #[(.tmp 25)], #[3]⟩, none⟩,
  ⟨(some 27), .move (.tmp 0), none⟩,
  ⟨(some 28), .binOp .geq 3 (.tmp 26) (.tmp 27) 3, none⟩]
def density_Reflectance_r9 : List SO := [⟨(some 29), .move (.tmp 6), none⟩,
  ⟨(some 4), .assign (.tmp 29), none⟩]
def density_Reflectance_r10 : List SO := [⟨(some 30), .move (.tmp 6), none⟩,
  ⟨(some 5), .assign (.tmp 30), none⟩]
def density_Reflectance_r11 : List SO := [⟨(some 31), .move (.tmp 4), none⟩,
  ⟨(some 2), .assign (.tmp 31), none⟩,
  ⟨(some 3), .assign (.const (.int .i64 0)), none⟩]
def density_Reflectance_c : SF := ⟨32, (.seq (.reg density_Reflectance_r0)
  (.seq (.seq (.reg density_Reflectance_r1)
  (.cond (.tmp 12) (.seq (.reg density_Reflectance_r2)
  .ret) .skip))
  (.seq (.reg density_Reflectance_r3)
  (.seq (.seq (.reg density_Reflectance_r4)
  (.cond (.tmp 16) (.seq (.reg density_Reflectance_r5)
  .ret) .skip))
  (.seq (.block 0 (.loop (.seq (.seq (.reg density_Reflectance_r6)
  (.cond (.tmp 20) .skip (.exit 0)))
  (.block 1 (.seq (.reg density_Reflectance_r7)
  (.seq (.reg density_Reflectance_r8)
  (.cond (.tmp 28) (.reg density_Reflectance_r9) (.reg density_Reflectance_r10))))))))
  (.seq (.reg density_Reflectance_r11)
  .ret)))))), [.tmp 2, .tmp 3]⟩
theorem density_Reflectance_s : slimF Try.prog 13 = some density_Reflectance_c := by kernel_rfl
def density_Density_r0 : List SO := [⟨(some 2), .assign (.const (.int .i64 0)), none⟩,
  ⟨(some 3), .assign (.const (.int .i64 0)), none⟩]
def density_Density_r1 : List SO := [⟨(some 4), .move (.tmp 0), none⟩,
  ⟨(some 5), .binOp .lss 3 (.tmp 4) (.const (.int .i64 1)) 3, none⟩,
  ⟨(some 6), .move (.tmp 5), none⟩,
  ⟨(some 7), .move (.tmp 0), (some (6, false))⟩,
  ⟨(some 8), .binOp .gtr 3 (.tmp 7) (.const (.int .i64 1000000)) 3, (some (6, false))⟩,
  ⟨(some 9), .pick (.tmp 6) (.const (.bool true)) (.tmp 8), none⟩]
def density_Density_r2 : List SO := [⟨(some 2), .assign (.const (.int .i64 0)), none⟩,
  ⟨(some 3), .assign (.const (.int .i64 3)), none⟩]
def density_Density_r3 : List SO := [⟨(some 10), .move (.tmp 0), none⟩,
  ⟨(some 11), .call ⟨(.value (.func 23)), #[(.tmp 10)], #[3]⟩, none⟩,
  ⟨(some 2), .assign (.tmp 11), none⟩,
  ⟨(some 3), .assign (.const (.int .i64 0)), none⟩]
def density_Density_c : SF := ⟨12, (.seq (.reg density_Density_r0)
  (.seq (.seq (.reg density_Density_r1)
  (.cond (.tmp 9) (.seq (.reg density_Density_r2)
  .ret) .skip))
  (.seq (.reg density_Density_r3)
  .ret))), [.tmp 2, .tmp 3]⟩
theorem density_Density_s : slimF Try.prog 14 = some density_Density_c := by kernel_rfl
def K2_curveWorks_r0 : List SO := [⟨(some 0), .assign (.const (.bool false)), none⟩]
def K2_curveWorks_r1 : List SO := [⟨(some 10), .call ⟨(.value (.func 24)), #[], #[]⟩, none⟩,
  ⟨(some 11), .call ⟨(.value (.func 17)), #[(.tmp 10), (.const (.int .i64 48960))], #[32, 3]⟩, none⟩,
  ⟨(some 9), .move (.tmp 11), none⟩,
  ⟨(some 12), .extract (.tmp 9) 0, none⟩,
  ⟨(some 13), .extract (.tmp 9) 1, none⟩,
  ⟨(some 1), .assign (.tmp 12), none⟩,
  ⟨(some 2), .assign (.tmp 13), none⟩]
def K2_curveWorks_r2 : List SO := [⟨(some 15), .call ⟨(.value (.func 24)), #[], #[]⟩, none⟩,
  ⟨(some 16), .call ⟨(.value (.func 16)), #[(.tmp 15), (.const (.int .i64 16321))], #[32, 3]⟩, none⟩,
  ⟨(some 14), .move (.tmp 16), none⟩,
  ⟨(some 17), .extract (.tmp 14) 0, none⟩,
  ⟨(some 18), .extract (.tmp 14) 1, none⟩,
  ⟨(some 3), .assign (.tmp 17), none⟩,
  ⟨(some 4), .assign (.tmp 18), none⟩]
def K2_curveWorks_r3 : List SO := [⟨(some 20), .call ⟨(.value (.func 24)), #[], #[]⟩, none⟩,
  ⟨(some 21), .call ⟨(.value (.func 25)), #[(.tmp 20)], #[32]⟩, none⟩,
  ⟨(some 19), .move (.tmp 21), none⟩,
  ⟨(some 22), .extract (.tmp 19) 0, none⟩,
  ⟨(some 23), .extract (.tmp 19) 1, none⟩,
  ⟨(some 5), .assign (.tmp 22), none⟩,
  ⟨(some 6), .assign (.tmp 23), none⟩]
def K2_curveWorks_r4 : List SO := [⟨(some 25), .build 45 #[(1, (.const (.int .i64 10)))], none⟩,
  ⟨(some 26), .build 45 #[(0, (.const (.int .i64 100))), (1, (.const (.int .i64 4)))], none⟩,
  ⟨(some 27), .build 45 #[(0, (.const (.int .i64 200))), (1, (.const (.int .i64 20)))], none⟩,
  ⟨(some 28), .buildSlice 30 3 #[(0, (.tmp 25)), (1, (.tmp 26)), (2, (.tmp 27))], none⟩,
  ⟨(some 29), .call ⟨(.value (.func 26)), #[(.tmp 28)], #[30]⟩, none⟩,
  ⟨(some 24), .move (.tmp 29), none⟩,
  ⟨(some 30), .extract (.tmp 24) 0, none⟩,
  ⟨(some 31), .extract (.tmp 24) 1, none⟩,
  ⟨(some 7), .alloc 32, none⟩,
  ⟨none, .store 32 (.tmp 7) (.tmp 30), none⟩,
  ⟨(some 8), .assign (.tmp 31), none⟩]
def K2_curveWorks_r5 : List SO := [⟨(some 32), .move (.tmp 2), none⟩,
  ⟨(some 33), .binOp .eql 24 (.tmp 32) (.const (.int .i64 0)) 24, none⟩,
  ⟨(some 34), .move (.tmp 33), none⟩,
  ⟨(some 35), .move (.tmp 1), (some (34, true))⟩,
  ⟨(some 36), .binOp .eql 3 (.tmp 35) (.const (.int .i64 40800)) 3, (some (34, true))⟩,
  ⟨(some 37), .pick (.tmp 34) (.tmp 36) (.const (.bool false)), none⟩,
  ⟨(some 38), .move (.tmp 37), none⟩,
  ⟨(some 39), .move (.tmp 4), (some (38, true))⟩,
  ⟨(some 40), .binOp .eql 24 (.tmp 39) (.const (.int .i64 0)) 24, (some (38, true))⟩,
  ⟨(some 41), .pick (.tmp 38) (.tmp 40) (.const (.bool false)), none⟩,
  ⟨(some 42), .move (.tmp 41), none⟩,
  ⟨(some 43), .move (.tmp 3), (some (42, true))⟩,
  ⟨(some 44), .binOp .eql 3 (.tmp 43) (.const (.int .i64 32641)) 3, (some (42, true))⟩,
  ⟨(some 45), .pick (.tmp 42) (.tmp 44) (.const (.bool false)), none⟩,
  ⟨(some 46), .move (.tmp 45), none⟩,
  ⟨(some 47), .move (.tmp 6), (some (46, true))⟩,
  ⟨(some 48), .binOp .eql 24 (.tmp 47) (.const (.int .i64 0)) 24, (some (46, true))⟩,
  ⟨(some 49), .pick (.tmp 46) (.tmp 48) (.const (.bool false)), none⟩,
  ⟨(some 50), .move (.tmp 49), none⟩,
  ⟨(some 51), .move (.tmp 5), (some (50, true))⟩,
  ⟨(some 52), .call ⟨(.builtin .len), #[(.tmp 51)], #[39]⟩, (some (50, true))⟩,
  ⟨(some 53), .binOp .eql 3 (.tmp 52) (.const (.int .i64 256)) 3, (some (50, true))⟩,
  ⟨(some 54), .pick (.tmp 50) (.tmp 53) (.const (.bool false)), none⟩,
  ⟨(some 55), .move (.tmp 54), none⟩,
  ⟨(some 56), .move (.tmp 5), (some (55, true))⟩,
  ⟨(some 57), .indexAddr 39 (.tmp 56) (.const (.int .i64 128)), (some (55, true))⟩,
  ⟨(some 58), .load 3 (.tmp 57), (some (55, true))⟩,
  ⟨(some 59), .binOp .eql 3 (.tmp 58) (.const (.int .i64 65)) 3, (some (55, true))⟩,
  ⟨(some 60), .pick (.tmp 55) (.tmp 59) (.const (.bool false)), none⟩,
  ⟨(some 61), .move (.tmp 60), none⟩,
  ⟨(some 62), .move (.tmp 8), (some (61, true))⟩,
  ⟨(some 63), .binOp .eql 24 (.tmp 62) (.const (.int .i64 0)) 24, (some (61, true))⟩,
  ⟨(some 64), .pick (.tmp 61) (.tmp 63) (.const (.bool false)), none⟩,
  ⟨(some 65), .move (.tmp 64), none⟩,
  ⟨(some 66), .fieldAddr 32 (.tmp 7) 0, (some (65, true))⟩,
  ⟨(some 67), .load 30 (.tmp 66), (some (65, true))⟩,
  ⟨(some 68), .call ⟨(.builtin .len), #[(.tmp 67)], #[30]⟩, (some (65, true))⟩,
  ⟨(some 69), .binOp .eql 3 (.tmp 68) (.const (.int .i64 4)) 3, (some (65, true))⟩,
  ⟨(some 70), .pick (.tmp 65) (.tmp 69) (.const (.bool false)), none⟩,
  ⟨(some 71), .move (.tmp 70), none⟩,
  ⟨(some 72), .fieldAddr 32 (.tmp 7) 0, (some (71, true))⟩,
  ⟨(some 73), .load 30 (.tmp 72), (some (71, true))⟩,
  ⟨(some 74), .indexAddr 30 (.tmp 73) (.const (.int .i64 1)), (some (71, true))⟩,
  ⟨(some 75), .load 45 (.tmp 74), (some (71, true))⟩,
  ⟨(some 76), .build 45 #[(0, (.const (.int .i64 100))), (1, (.const (.int .i64 7)))], (some (71, true))⟩,
  ⟨(some 77), .binOp .eql 45 (.tmp 75) (.tmp 76) 45, (some (71, true))⟩,
  ⟨(some 78), .pick (.tmp 71) (.tmp 77) (.const (.bool false)), none⟩,
  ⟨(some 0), .assign (.tmp 78), none⟩]
def K2_curveWorks_c : SF := ⟨79, (.seq (.reg K2_curveWorks_r0)
  (.seq (.reg K2_curveWorks_r1)
  (.seq (.reg K2_curveWorks_r2)
  (.seq (.reg K2_curveWorks_r3)
  (.seq (.reg K2_curveWorks_r4)
  (.seq (.reg K2_curveWorks_r5)
  .ret)))))), [.tmp 0]⟩
theorem K2_curveWorks_s : slimF Try.prog 15 = some K2_curveWorks_c := by kernel_rfl
def curve_Inverse_r0 : List SO := [⟨(some 2), .box 32 (.tmp 0), none⟩,
  ⟨(some 4), .assign (.const (.int .i64 0)), none⟩,
  ⟨(some 5), .assign (.const (.int .i64 0)), none⟩]
def curve_Inverse_r1 : List SO := [⟨(some 7), .load 32 (.tmp 2), none⟩,
  ⟨(some 8), .call ⟨(.value (.func 27)), #[(.tmp 7)], #[32]⟩, none⟩,
  ⟨(some 6), .assign (.tmp 8), none⟩]
def curve_Inverse_r2 : List SO := [⟨(some 9), .move (.tmp 6), none⟩,
  ⟨(some 10), .binOp .neq 24 (.tmp 9) (.const (.int .i64 0)) 24, none⟩]
def curve_Inverse_r3 : List SO := [⟨(some 11), .move (.tmp 6), none⟩,
  ⟨(some 4), .assign (.const (.int .i64 0)), none⟩,
  ⟨(some 5), .assign (.tmp 11), none⟩]
def curve_Inverse_r4 : List SO := [⟨(some 12), .move (.tmp 1), none⟩,
  ⟨(some 13), .binOp .lss 3 (.tmp 12) (.const (.int .i64 0)) 3, none⟩,
  ⟨(some 14), .move (.tmp 13), none⟩,
  ⟨(some 15), .move (.tmp 1), (some (14, false))⟩,
  ⟨(some 16), .binOp .gtr 3 (.tmp 15) (.const (.int .i64 65280)) 3, (some (14, false))⟩,
  ⟨(some 17), .pick (.tmp 14) (.const (.bool true)) (.tmp 16), none⟩]
def curve_Inverse_r5 : List SO := [⟨(some 4), .assign (.const (.int .i64 0)), none⟩,
  ⟨(some 5), .assign (.const (.int .i64 3)), none⟩]
def curve_Inverse_r6 : List SO := [⟨(some 18), .fieldAddr 32 (.tmp 2) 0, none⟩,
  ⟨(some 19), .load 30 (.tmp 18), none⟩,
  ⟨(some 20), .fieldAddr 32 (.tmp 2) 0, none⟩,
  ⟨(some 21), .load 30 (.tmp 20), none⟩,
  ⟨(some 22), .call ⟨(.builtin .len), #[(.tmp 21)], #[30]⟩, none⟩,
  ⟨(some 23), .binOp .sub 3 (.tmp 22) (.const (.int .i64 1)) 3, none⟩,
  ⟨(some 24), .indexAddr 30 (.tmp 19) (.tmp 23), none⟩,
  ⟨(some 25), .fieldAddr 45 (.tmp 24) 1, none⟩,
  ⟨(some 26), .load 3 (.tmp 25), none⟩,
  ⟨(some 27), .move (.tmp 1), none⟩,
  ⟨(some 28), .binOp .lss 3 (.tmp 26) (.tmp 27) 3, none⟩]
def curve_Inverse_r7 : List SO := [⟨(some 4), .assign (.const (.int .i64 0)), none⟩,
  ⟨(some 5), .assign (.const (.int .i64 8)), none⟩]
def curve_Inverse_r8 : List SO := [⟨(some 29), .load 32 (.tmp 2), none⟩,
  ⟨(some 30), .move (.tmp 1), none⟩,
  ⟨(some 31), .call ⟨(.value (.func 28)), #[(.tmp 29), (.tmp 30)], #[32, 3]⟩, none⟩,
  ⟨(some 4), .assign (.tmp 31), none⟩,
  ⟨(some 5), .assign (.const (.int .i64 0)), none⟩]
def curve_Inverse_c : SF := ⟨32, (.seq (.reg curve_Inverse_r0)
  (.seq (.seq (.reg curve_Inverse_r1)
  (.seq (.reg curve_Inverse_r2)
  (.cond (.tmp 10) (.seq (.reg curve_Inverse_r3)
  .ret) .skip)))
  (.seq (.seq (.reg curve_Inverse_r4)
  (.cond (.tmp 17) (.seq (.reg curve_Inverse_r5)
  .ret) .skip))
  (.seq (.seq (.reg curve_Inverse_r6)
  (.cond (.tmp 28) (.seq (.reg curve_Inverse_r7)
  .ret) .skip))
  (.seq (.reg curve_Inverse_r8)
  .ret))))), [.tmp 4, .tmp 5]⟩
theorem curve_Inverse_s : slimF Try.prog 16 = some curve_Inverse_c := by kernel_rfl
def curve_At_r0 : List SO := [⟨(some 2), .box 32 (.tmp 0), none⟩,
  ⟨(some 4), .assign (.const (.int .i64 0)), none⟩,
  ⟨(some 5), .assign (.const (.int .i64 0)), none⟩]
def curve_At_r1 : List SO := [⟨(some 7), .load 32 (.tmp 2), none⟩,
  ⟨(some 8), .call ⟨(.value (.func 27)), #[(.tmp 7)], #[32]⟩, none⟩,
  ⟨(some 6), .assign (.tmp 8), none⟩]
def curve_At_r2 : List SO := [⟨(some 9), .move (.tmp 6), none⟩,
  ⟨(some 10), .binOp .neq 24 (.tmp 9) (.const (.int .i64 0)) 24, none⟩]
def curve_At_r3 : List SO := [⟨(some 11), .move (.tmp 6), none⟩,
  ⟨(some 4), .assign (.const (.int .i64 0)), none⟩,
  ⟨(some 5), .assign (.tmp 11), none⟩]
def curve_At_r4 : List SO := [⟨(some 12), .move (.tmp 1), none⟩,
  ⟨(some 13), .binOp .lss 3 (.tmp 12) (.const (.int .i64 0)) 3, none⟩,
  ⟨(some 14), .move (.tmp 13), none⟩,
  ⟨(some 15), .move (.tmp 1), (some (14, false))⟩,
  ⟨(some 16), .binOp .gtr 3 (.tmp 15) (.const (.int .i64 65280)) 3, (some (14, false))⟩,
  ⟨(some 17), .pick (.tmp 14) (.const (.bool true)) (.tmp 16), none⟩]
def curve_At_r5 : List SO := [⟨(some 4), .assign (.const (.int .i64 0)), none⟩,
  ⟨(some 5), .assign (.const (.int .i64 3)), none⟩]
def curve_At_r6 : List SO := [⟨(some 18), .load 32 (.tmp 2), none⟩,
  ⟨(some 19), .move (.tmp 1), none⟩,
  ⟨(some 20), .call ⟨(.value (.func 29)), #[(.tmp 18), (.tmp 19)], #[32, 3]⟩, none⟩,
  ⟨(some 4), .assign (.tmp 20), none⟩,
  ⟨(some 5), .assign (.const (.int .i64 0)), none⟩]
def curve_At_c : SF := ⟨21, (.seq (.reg curve_At_r0)
  (.seq (.seq (.reg curve_At_r1)
  (.seq (.reg curve_At_r2)
  (.cond (.tmp 10) (.seq (.reg curve_At_r3)
  .ret) .skip)))
  (.seq (.seq (.reg curve_At_r4)
  (.cond (.tmp 17) (.seq (.reg curve_At_r5)
  .ret) .skip))
  (.seq (.reg curve_At_r6)
  .ret)))), [.tmp 4, .tmp 5]⟩
theorem curve_At_s : slimF Try.prog 17 = some curve_At_c := by kernel_rfl
def density_Contrast_r0 : List SO := [⟨(some 4), .assign (.const (.int .i64 0)), none⟩,
  ⟨(some 5), .assign (.const (.int .i64 0)), none⟩]
def density_Contrast_r1 : List SO := [⟨(some 8), .move (.tmp 0), none⟩,
  ⟨(some 9), .binOp .lss 3 (.tmp 8) (.const (.int .i64 1)) 3, none⟩,
  ⟨(some 10), .move (.tmp 9), none⟩,
  ⟨(some 11), .move (.tmp 0), (some (10, false))⟩,
  ⟨(some 12), .binOp .gtr 3 (.tmp 11) (.const (.int .i64 1000000)) 3, (some (10, false))⟩,
  ⟨(some 13), .pick (.tmp 10) (.const (.bool true)) (.tmp 12), none⟩]
def density_Contrast_r2 : List SO := [⟨(some 4), .assign (.const (.int .i64 0)), none⟩,
  ⟨(some 5), .assign (.const (.int .i64 3)), none⟩]
def density_Contrast_r3 : List SO := [⟨(some 14), .move (.tmp 1), none⟩,
  ⟨(some 15), .call ⟨(.value (.func 21)), #[(.tmp 14)], #[3]⟩, none⟩,
  ⟨(some 6), .assign (.tmp 15), none⟩]
def density_Contrast_r4 : List SO := [⟨(some 16), .move (.tmp 6), none⟩,
  ⟨(some 17), .binOp .neq 24 (.tmp 16) (.const (.int .i64 0)) 24, none⟩]
def density_Contrast_r5 : List SO := [⟨(some 18), .move (.tmp 6), none⟩,
  ⟨(some 4), .assign (.const (.int .i64 0)), none⟩,
  ⟨(some 5), .assign (.tmp 18), none⟩]
def density_Contrast_r6 : List SO := [⟨(some 19), .move (.tmp 0), none⟩,
  ⟨(some 20), .move (.tmp 1), none⟩,
  ⟨(some 21), .binOp .lss 3 (.tmp 19) (.tmp 20) 3, none⟩]
def density_Contrast_r7 : List SO := [⟨(some 4), .assign (.const (.int .i64 0)), none⟩,
  ⟨(some 5), .assign (.const (.int .i64 18)), none⟩]
def density_Contrast_r8 : List SO := [⟨(some 22), .move (.tmp 1), none⟩,
  ⟨(some 23), .call ⟨(.value (.func 23)), #[(.tmp 22)], #[3]⟩, none⟩,
  ⟨(some 7), .assign (.tmp 23), none⟩]
def density_Contrast_r9 : List SO := [⟨(some 24), .move (.tmp 7), none⟩,
  ⟨(some 25), .binOp .eql 3 (.tmp 24) (.const (.int .i64 0)) 3, none⟩]
def density_Contrast_r10 : List SO := [⟨(some 4), .assign (.const (.int .i64 0)), none⟩,
  ⟨(some 5), .assign (.const (.int .i64 8)), none⟩]
def density_Contrast_r11 : List SO := [⟨(some 26), .move (.tmp 7), none⟩,
  ⟨(some 27), .move (.tmp 0), none⟩,
  ⟨(some 28), .call ⟨(.value (.func 23)), #[(.tmp 27)], #[3]⟩, none⟩,
  ⟨(some 29), .binOp .sub 3 (.tmp 26) (.tmp 28) 3, none⟩,
  ⟨(some 30), .binOp .mul 3 (.const (.int .i64 100)) (.tmp 29) 3, none⟩,
  ⟨(some 31), .move (.tmp 7), none⟩,
  ⟨(some 32), .call ⟨(.value (.func 22)), #[(.tmp 30), (.tmp 31)], #[3, 3]⟩, none⟩,
  ⟨(some 4), .assign (.tmp 32), none⟩,
  ⟨(some 5), .assign (.const (.int .i64 0)), none⟩]
def density_Contrast_c : SF := ⟨33, (.seq (.reg density_Contrast_r0)
  (.seq (.seq (.reg density_Contrast_r1)
  (.cond (.tmp 13) (.seq (.reg density_Contrast_r2)
  .ret) .skip))
  (.seq (.seq (.reg density_Contrast_r3)
  (.seq (.reg density_Contrast_r4)
  (.cond (.tmp 17) (.seq (.reg density_Contrast_r5)
  .ret) .skip)))
  (.seq (.seq (.reg density_Contrast_r6)
  (.cond (.tmp 21) (.seq (.reg density_Contrast_r7)
  .ret) .skip))
  (.seq (.reg density_Contrast_r8)
  (.seq (.seq (.reg density_Contrast_r9)
  (.cond (.tmp 25) (.seq (.reg density_Contrast_r10)
  .ret) .skip))
  (.seq (.reg density_Contrast_r11)
  .ret))))))), [.tmp 4, .tmp 5]⟩
theorem density_Contrast_s : slimF Try.prog 18 = some density_Contrast_c := by kernel_rfl
def R2_Floor_r0 : List SO := [⟨(some 4), .assign (.const (.int .i64 0)), none⟩]
def R2_Floor_r1 : List SO := [⟨(some 6), .move (.tmp 0), none⟩,
  ⟨(some 7), .move (.tmp 1), none⟩,
  ⟨(some 8), .binOp .quo 3 (.tmp 6) (.tmp 7) 3, none⟩,
  ⟨(some 5), .assign (.tmp 8), none⟩]
def R2_Floor_r2 : List SO := [⟨(some 9), .move (.tmp 5), none⟩,
  ⟨(some 10), .move (.tmp 1), none⟩,
  ⟨(some 11), .binOp .mul 3 (.tmp 9) (.tmp 10) 3, none⟩,
  ⟨(some 12), .move (.tmp 0), none⟩,
  ⟨(some 13), .binOp .gtr 3 (.tmp 11) (.tmp 12) 3, none⟩]
def R2_Floor_r3 : List SO := [⟨(some 14), .move (.tmp 5), none⟩,
  ⟨(some 15), .binOp .sub 3 (.tmp 14) (.const (.int .i64 1)) 3, none⟩,
  ⟨(some 5), .assign (.tmp 15), none⟩]
def R2_Floor_r4 : List SO := [⟨(some 16), .move (.tmp 5), none⟩,
  ⟨(some 4), .assign (.tmp 16), none⟩]
def R2_Floor_c : SF := ⟨17, (.seq (.reg R2_Floor_r0)
  (.seq (.reg R2_Floor_r1)
  (.seq (.seq (.reg R2_Floor_r2)
  (.cond (.tmp 13) (.reg R2_Floor_r3) .skip))
  (.seq (.reg R2_Floor_r4)
  .ret)))), [.tmp 4]⟩
theorem R2_Floor_s : slimF Try.prog 19 = some R2_Floor_c := by kernel_rfl
def density_log_r0 : List SO := [⟨(some 2), .assign (.const (.int .i64 0)), none⟩]
def density_log_r1 : List SO := [⟨(some 6), .move (.tmp 0), none⟩,
  ⟨(some 7), .convert 3 49 (.tmp 6), none⟩,
  ⟨(some 8), .call ⟨(.value (.func 30)), #[(.tmp 7)], #[49]⟩, none⟩,
  ⟨(some 9), .binOp .sub 3 (.tmp 8) (.const (.int .i64 1)) 3, none⟩,
  ⟨(some 3), .assign (.tmp 9), none⟩]
def density_log_r2 : List SO := [⟨(some 10), .move (.tmp 0), none⟩,
  ⟨(some 11), .convert 3 49 (.tmp 10), none⟩,
  ⟨(some 12), .move (.tmp 3), none⟩,
  ⟨(some 13), .binOp .sub 3 (.const (.int .i64 63)) (.tmp 12) 3, none⟩,
  ⟨(some 14), .binOp .shl 49 (.tmp 11) (.tmp 13) 3, none⟩,
  ⟨(some 15), .binOp .shr 49 (.tmp 14) (.const (.int .u64 33)) 50, none⟩,
  ⟨(some 4), .assign (.tmp 15), none⟩]
def density_log_r3 : List SO := [⟨(some 16), .move (.tmp 3), none⟩,
  ⟨(some 5), .assign (.tmp 16), none⟩]
def density_log_r4 : List SO := [⟨(some 17), .move (.const (.int .i64 0)), none⟩]
def density_log_r5 : List SO := [⟨(some 18), .binOp .lss 3 (.tmp 17) (.const (.int .i64 16)) 3, none⟩]
def density_log_r6 : List SO := [⟨(some 19), .move (.tmp 4), none⟩,
  ⟨(some 20), .move (.tmp 4), none⟩,
  ⟨(some 21), .binOp .mul 49 (.tmp 19) (.tmp 20) 49, none⟩,
  ⟨(some 22), .binOp .shr 49 (.tmp 21) (.const (.int .u64 30)) 50, none⟩,
  ⟨(some 4), .assign (.tmp 22), none⟩]
def density_log_r7 : List SO := [⟨(some 23), .move (.tmp 5), none⟩,
  ⟨(some 24), .binOp .shl 3 (.tmp 23) (.const (.int .u64 1)) 50, none⟩,
  ⟨(some 5), .assign (.tmp 24), none⟩]
def density_log_r8 : List SO := [⟨(some 25), .move (.tmp 4), none⟩,
  ⟨(some 26), .binOp .geq 49 (.tmp 25) (.const (.int .u64 2147483648)) 49, none⟩]
def density_log_r9 : List SO := [⟨(some 27), .move (.tmp 4), none⟩,
  ⟨(some 28), .binOp .shr 49 (.tmp 27) (.const (.int .u64 1)) 50, none⟩,
  ⟨(some 4), .assign (.tmp 28), none⟩]
def density_log_r10 : List SO := [⟨(some 29), .move (.tmp 5), none⟩,
  ⟨(some 30), .binOp .or 3 (.tmp 29) (.const (.int .i64 1)) 3, none⟩,
  ⟨(some 5), .assign (.tmp 30), none⟩]
def density_log_r11 : List SO := [⟨(some 31), .binOp .add 3 (.tmp 17) (.const (.int .i64 1)) 3, none⟩,
  ⟨(some 17), .move (.tmp 31), none⟩]
def density_log_r12 : List SO := [⟨(some 32), .move (.tmp 5), none⟩,
  ⟨(some 2), .assign (.tmp 32), none⟩]
def density_log_c : SF := ⟨33, (.seq (.reg density_log_r0)
  (.seq (.reg density_log_r1)
  (.seq (.reg density_log_r2)
  (.seq (.reg density_log_r3)
  (.seq (.seq (.reg density_log_r4)
  (.block 0 (.loop (.seq (.reg density_log_r5)
  (.seq (.cond (.tmp 18) .skip (.exit 0))
  (.seq (.block 1 (.seq (.reg density_log_r6)
  (.seq (.reg density_log_r7)
  (.seq (.reg density_log_r8)
  (.cond (.tmp 26) (.seq (.reg density_log_r9)
  (.reg density_log_r10)) .skip)))))
  (.reg density_log_r11)))))))
  (.seq (.reg density_log_r12)
  .ret)))))), [.tmp 2]⟩
theorem density_log_s : slimF Try.prog 20 = some density_log_c := by kernel_rfl
def density_solid_r0 : List SO := [⟨(some 2), .assign (.const (.int .i64 0)), none⟩]
def density_solid_r1 : List SO := [⟨(some 3), .move (.tmp 0), none⟩,
  ⟨(some 4), .binOp .lss 3 (.tmp 3) (.const (.int .i64 1)) 3, none⟩,
  ⟨(some 5), .move (.tmp 4), none⟩,
  ⟨(some 6), .move (.tmp 0), (some (5, false))⟩,
  ⟨(some 7), .binOp .gtr 3 (.tmp 6) (.const (.int .i64 1000000)) 3, (some (5, false))⟩,
  ⟨(some 8), .pick (.tmp 5) (.const (.bool true)) (.tmp 7), none⟩]
def density_solid_r2 : List SO := [⟨(some 2), .assign (.const (.int .i64 3)), none⟩]
def density_solid_r3 : List SO := [⟨(some 9), .move (.tmp 0), none⟩,
  ⟨(some 10), .binOp .eql 3 (.tmp 9) (.const (.int .i64 1000000)) 3, none⟩]
def density_solid_r4 : List SO := [⟨(some 2), .assign (.const (.int .i64 8)), none⟩]
def density_solid_r5 : List SO := [⟨(some 2), .assign (.const (.int .i64 0)), none⟩]
def density_solid_c : SF := ⟨11, (.seq (.reg density_solid_r0)
  (.seq (.seq (.reg density_solid_r1)
  (.cond (.tmp 8) (.seq (.reg density_solid_r2)
  .ret) .skip))
  (.seq (.seq (.reg density_solid_r3)
  (.cond (.tmp 10) (.seq (.reg density_solid_r4)
  .ret) .skip))
  (.seq (.reg density_solid_r5)
  .ret)))), [.tmp 2]⟩
theorem density_solid_s : slimF Try.prog 21 = some density_solid_c := by kernel_rfl
def curve_Nearest_r0 : List SO := [⟨(some 4), .assign (.const (.int .i64 0)), none⟩]
def curve_Nearest_r1 : List SO := [⟨(some 6), .move (.tmp 0), none⟩,
  ⟨(some 7), .binOp .mul 3 (.const (.int .i64 2)) (.tmp 6) 3, none⟩,
  ⟨(some 8), .move (.tmp 1), none⟩,
  ⟨(some 9), .binOp .add 3 (.tmp 7) (.tmp 8) 3, none⟩,
  ⟨(some 10), .move (.tmp 1), none⟩,
  ⟨(some 11), .binOp .mul 3 (.const (.int .i64 2)) (.tmp 10) 3, none⟩,
  ⟨(some 0), .assign (.tmp 9), none⟩,
  ⟨(some 1), .assign (.tmp 11), none⟩]
def curve_Nearest_r2 : List SO := [⟨(some 12), .move (.tmp 0), none⟩,
  ⟨(some 13), .move (.tmp 1), none⟩,
  ⟨(some 14), .binOp .quo 3 (.tmp 12) (.tmp 13) 3, none⟩,
  ⟨(some 5), .assign (.tmp 14), none⟩]
def curve_Nearest_r3 : List SO := [⟨(some 15), .move (.tmp 0), none⟩,
  ⟨(some 16), .move (.tmp 1), none⟩,
  ⟨(some 17), .binOp .rem 3 (.tmp 15) (.tmp 16) 3, none⟩,
  ⟨(some 18), .binOp .lss 3 (.tmp 17) (.const (.int .i64 0)) 3, none⟩]
def curve_Nearest_r4 : List SO := [⟨(some 19), .move (.tmp 5), none⟩,
  ⟨(some 20), .binOp .sub 3 (.tmp 19) (.const (.int .i64 1)) 3, none⟩,
  ⟨(some 5), .assign (.tmp 20), none⟩]
def curve_Nearest_r5 : List SO := [⟨(some 21), .move (.tmp 5), none⟩,
  ⟨(some 4), .assign (.tmp 21), none⟩]
def curve_Nearest_c : SF := ⟨22, (.seq (.reg curve_Nearest_r0)
  (.seq (.reg curve_Nearest_r1)
  (.seq (.reg curve_Nearest_r2)
  (.seq (.seq (.reg curve_Nearest_r3)
  (.cond (.tmp 18) (.reg curve_Nearest_r4) .skip))
  (.seq (.reg curve_Nearest_r5)
  .ret))))), [.tmp 4]⟩
theorem curve_Nearest_s : slimF Try.prog 22 = some curve_Nearest_c := by kernel_rfl
def density_of_r0 : List SO := [⟨(some 2), .assign (.const (.int .i64 0)), none⟩]
def density_of_r1 : List SO := [⟨(some 3), .call ⟨(.value (.func 20)), #[(.const (.int .i64 1000000))], #[3]⟩, none⟩,
  ⟨(some 4), .move (.tmp 0), none⟩,
  ⟨(some 5), .call ⟨(.value (.func 20)), #[(.tmp 4)], #[3]⟩, none⟩,
  ⟨(some 6), .binOp .sub 3 (.tmp 3) (.tmp 5) 3, none⟩,
  ⟨(some 7), .binOp .mul 3 (.tmp 6) (.const (.int .i64 30103)) 3, none⟩,
  ⟨(some 8), .call ⟨(.value (.func 22)), #[(.tmp 7), (.const (.int .i64 6553600))], #[3, 3]⟩, none⟩,
  ⟨(some 2), .assign (.tmp 8), none⟩]
def density_of_c : SF := ⟨9, (.seq (.reg density_of_r0)
  (.seq (.reg density_of_r1)
  .ret)), [.tmp 2]⟩
theorem density_of_s : slimF Try.prog 23 = some density_of_c := by kernel_rfl
def K2_bent_r0 : List SO := [⟨(some 0), .alloc 32, none⟩]
def K2_bent_r1 : List SO := [⟨(some 1), .build 45 #[], none⟩,
  ⟨(some 2), .build 45 #[(0, (.const (.int .i64 32640))), (1, (.const (.int .i64 16320)))], none⟩,
  ⟨(some 3), .build 45 #[(0, (.const (.int .i64 65280))), (1, (.const (.int .i64 65280)))], none⟩,
  ⟨(some 4), .buildSlice 30 3 #[(0, (.tmp 1)), (1, (.tmp 2)), (2, (.tmp 3))], none⟩,
  ⟨(some 5), .build 32 #[(0, (.tmp 4))], none⟩,
  ⟨none, .store 32 (.tmp 0) (.tmp 5), none⟩]
def K2_bent_c : SF := ⟨6, (.seq (.reg K2_bent_r0)
  (.seq (.reg K2_bent_r1)
  .ret)), [.cell 0 32]⟩
theorem K2_bent_s : slimF Try.prog 24 = some K2_bent_c := by kernel_rfl
def curve_Table_r0 : List SO := [⟨(some 1), .box 32 (.tmp 0), none⟩,
  ⟨(some 2), .assign (.const (.slice none 0 0)), none⟩,
  ⟨(some 3), .assign (.const (.int .i64 0)), none⟩]
def curve_Table_r1 : List SO := [⟨(some 7), .load 32 (.tmp 1), none⟩,
  ⟨(some 8), .call ⟨(.value (.func 27)), #[(.tmp 7)], #[32]⟩, none⟩,
  ⟨(some 4), .assign (.tmp 8), none⟩]
def curve_Table_r2 : List SO := [⟨(some 9), .move (.tmp 4), none⟩,
  ⟨(some 10), .binOp .neq 24 (.tmp 9) (.const (.int .i64 0)) 24, none⟩]
def curve_Table_r3 : List SO := [⟨(some 11), .move (.tmp 4), none⟩,
  ⟨(some 2), .assign (.const (.slice none 0 0)), none⟩,
  ⟨(some 3), .assign (.tmp 11), none⟩]
def curve_Table_r4 : List SO := [⟨(some 12), .makeSlice 39 (.const (.int .i64 256)) (.const (.int .i64 256)), none⟩,
  ⟨(some 5), .assign (.tmp 12), none⟩]
def curve_Table_r5 : List SO := [⟨(some 13), .move (.tmp 5), none⟩,
  ⟨(some 14), .call ⟨(.builtin .len), #[(.tmp 13)], #[39]⟩, none⟩,
  ⟨(some 15), .move (.const (.int .i64 0)), none⟩]
def curve_Table_r6 : List SO := [⟨(some 16), .binOp .lss 3 (.tmp 15) (.tmp 14) 3, none⟩]
def curve_Table_r7 : List SO := [⟨(some 17), .move (.tmp 15), none⟩,
  ⟨(some 6), .assign (.tmp 17), none⟩]
def curve_Table_r8 : List SO := [⟨(some 18), .move (.tmp 5), none⟩,
  ⟨(some 19), .move (.tmp 6), none⟩,
  ⟨(some 20), .load 32 (.tmp 1), none⟩,
  ⟨(some 21), .move (.tmp 6), none⟩,
  ⟨(some 22), .binOp .mul 3 (.const (.int .i64 256)) (.tmp 21) 3, none⟩,
  ⟨(some 23), .call ⟨(.value (.func 29)), #[(.tmp 20), (.tmp 22)], #[32, 3]⟩, none⟩,
  ⟨(some 24), .call ⟨(.value (.func 22)), #[(.tmp 23), (.const (.int .i64 256))], #[3, 3]⟩, none⟩,
  ⟨(some 25), .indexAddr 39 (.tmp 18) (.tmp 19), none⟩,
  ⟨none, .store 3 (.tmp 25) (.tmp 24), none⟩]
def curve_Table_r9 : List SO := [⟨(some 26), .binOp .add 3 (.tmp 15) (.const (.int .i64 1)) 3, none⟩,
  ⟨(some 15), .move (.tmp 26), none⟩]
def curve_Table_r10 : List SO := [⟨(some 27), .move (.tmp 5), none⟩,
  ⟨(some 2), .assign (.tmp 27), none⟩,
  ⟨(some 3), .assign (.const (.int .i64 0)), none⟩]
def curve_Table_c : SF := ⟨28, (.seq (.reg curve_Table_r0)
  (.seq (.seq (.reg curve_Table_r1)
  (.seq (.reg curve_Table_r2)
  (.cond (.tmp 10) (.seq (.reg curve_Table_r3)
  .ret) .skip)))
  (.seq (.reg curve_Table_r4)
  (.seq (.seq (.reg curve_Table_r5)
  (.block 0 (.loop (.seq (.reg curve_Table_r6)
  (.seq (.cond (.tmp 16) .skip (.exit 0))
  (.seq (.block 1 (.seq (.reg curve_Table_r7)
  (.reg curve_Table_r8)))
  (.reg curve_Table_r9)))))))
  (.seq (.reg curve_Table_r10)
  .ret))))), [.tmp 2, .tmp 3]⟩
theorem curve_Table_s : slimF Try.prog 25 = some curve_Table_c := by kernel_rfl
def curve_Fit_r0 : List SO := [⟨(some 2), .alloc 32, none⟩,
  ⟨(some 3), .assign (.const (.int .i64 0)), none⟩]
def curve_Fit_r1 : List SO := [⟨(some 18), .move (.tmp 0), none⟩,
  ⟨(some 19), .call ⟨(.builtin .len), #[(.tmp 18)], #[30]⟩, none⟩,
  ⟨(some 20), .binOp .gtr 3 (.tmp 19) (.const (.int .i64 31)) 3, none⟩]
def curve_Fit_r2 : List SO := [⟨(some 21), .build 32 #[], none⟩,
  ⟨none, .store 32 (.tmp 2) (.tmp 21), none⟩,
  ⟨(some 3), .assign (.const (.int .i64 2)), none⟩]
def curve_Fit_r3 : List SO := [⟨(some 22), .move (.tmp 0), none⟩,
  ⟨(some 23), .call ⟨(.builtin .len), #[(.tmp 22)], #[30]⟩, none⟩,
  ⟨(some 24), .binOp .eql 3 (.tmp 23) (.const (.int .i64 0)) 3, none⟩]
def curve_Fit_r4 : List SO := [⟨(some 25), .build 32 #[], none⟩,
  ⟨none, .store 32 (.tmp 2) (.tmp 25), none⟩,
  ⟨(some 3), .assign (.const (.int .i64 1)), none⟩]
def curve_Fit_r5 : List SO := [⟨(some 26), .move (.tmp 0), none⟩,
  ⟨(some 27), .call ⟨(.builtin .len), #[(.tmp 26)], #[30]⟩, none⟩,
  ⟨(some 28), .move (.const (.int .i64 0)), none⟩]
def curve_Fit_r6 : List SO := [⟨(some 29), .binOp .lss 3 (.tmp 28) (.tmp 27) 3, none⟩]
def curve_Fit_r7 : List SO := [⟨(some 30), .move (.tmp 28), none⟩,
  ⟨(some 31), .indexAddr 30 (.tmp 26) (.tmp 28), none⟩,
  ⟨(some 32), .load 45 (.tmp 31), none⟩,
  ⟨(some 5), .alloc 45, none⟩,
  ⟨(some 4), .assign (.tmp 30), none⟩,
  ⟨none, .store 45 (.tmp 5) (.tmp 32), none⟩]
def curve_Fit_r8 : List SO := [⟨(some 33), .fieldAddr 45 (.tmp 5) 0, none⟩,
  ⟨(some 34), .load 3 (.tmp 33), none⟩,
  ⟨(some 35), .binOp .lss 3 (.tmp 34) (.const (.int .i64 0)) 3, none⟩,
  ⟨(some 36), .move (.tmp 35), none⟩,
  ⟨(some 37), .fieldAddr 45 (.tmp 5) 0, (some (36, false))⟩,
  ⟨(some 38), .load 3 (.tmp 37), (some (36, false))⟩,
  ⟨(some 39), .binOp .gtr 3 (.tmp 38) (.const (.int .i64 65280)) 3, (some (36, false))⟩,
  ⟨(some 40), .pick (.tmp 36) (.const (.bool true)) (.tmp 39), none⟩,
  ⟨(some 41), .move (.tmp 40), none⟩,
  ⟨(some 42), .fieldAddr 45 (.tmp 5) 1, (some (41, false))⟩,
  ⟨(some 43), .load 3 (.tmp 42), (some (41, false))⟩,
  ⟨(some 44), .binOp .lss 3 (.tmp 43) (.const (.int .i64 0)) 3, (some (41, false))⟩,
  ⟨(some 45), .pick (.tmp 41) (.const (.bool true)) (.tmp 44), none⟩,
  ⟨(some 46), .move (.tmp 45), none⟩,
  ⟨(some 47), .fieldAddr 45 (.tmp 5) 1, (some (46, false))⟩,
  ⟨(some 48), .load 3 (.tmp 47), (some (46, false))⟩,
  ⟨(some 49), .binOp .gtr 3 (.tmp 48) (.const (.int .i64 65280)) 3, (some (46, false))⟩,
  ⟨(some 50), .pick (.tmp 46) (.const (.bool true)) (.tmp 49), none⟩]
def curve_Fit_r9 : List SO := [⟨(some 51), .build 32 #[], none⟩,
  ⟨none, .store 32 (.tmp 2) (.tmp 51), none⟩,
  ⟨(some 3), .assign (.const (.int .i64 3)), none⟩]
def curve_Fit_r10 : List SO := [⟨(some 52), .move (.tmp 4), none⟩,
  ⟨(some 53), .binOp .gtr 3 (.tmp 52) (.const (.int .i64 0)) 3, none⟩,
  ⟨(some 54), .move (.tmp 53), none⟩,
  ⟨(some 55), .fieldAddr 45 (.tmp 5) 0, (some (54, true))⟩,
  ⟨(some 56), .load 3 (.tmp 55), (some (54, true))⟩,
  ⟨(some 57), .move (.tmp 0), (some (54, true))⟩,
  ⟨(some 58), .move (.tmp 4), (some (54, true))⟩,
  ⟨(some 59), .binOp .sub 3 (.tmp 58) (.const (.int .i64 1)) 3, (some (54, true))⟩,
  ⟨(some 60), .indexAddr 30 (.tmp 57) (.tmp 59), (some (54, true))⟩,
  ⟨(some 61), .fieldAddr 45 (.tmp 60) 0, (some (54, true))⟩,
  ⟨(some 62), .load 3 (.tmp 61), (some (54, true))⟩,
  ⟨(some 63), .binOp .leq 3 (.tmp 56) (.tmp 62) 3, (some (54, true))⟩,
  ⟨(some 64), .pick (.tmp 54) (.tmp 63) (.const (.bool false)), none⟩]
def curve_Fit_r11 : List SO := [⟨(some 65), .build 32 #[], none⟩,
  ⟨none, .store 32 (.tmp 2) (.tmp 65), none⟩,
  ⟨(some 3), .assign (.const (.int .i64 18)), none⟩]
def curve_Fit_r12 : List SO := [⟨(some 66), .binOp .add 3 (.tmp 28) (.const (.int .i64 1)) 3, none⟩,
  ⟨(some 28), .move (.tmp 66), none⟩]
def curve_Fit_r13 : List SO := [⟨(some 6), .assign (.const (.slice none 0 0)), none⟩]
def curve_Fit_r14 : List SO := [⟨(some 67), .move (.tmp 0), none⟩,
  ⟨(some 68), .call ⟨(.builtin .len), #[(.tmp 67)], #[30]⟩, none⟩,
  ⟨(some 69), .move (.const (.int .i64 0)), none⟩]
def curve_Fit_r15 : List SO := [⟨(some 70), .binOp .lss 3 (.tmp 69) (.tmp 68) 3, none⟩]
def curve_Fit_r16 : List SO := [⟨(some 71), .indexAddr 30 (.tmp 67) (.tmp 69), none⟩,
  ⟨(some 72), .load 45 (.tmp 71), none⟩,
  ⟨(some 8), .alloc 45, none⟩,
  ⟨none, .store 45 (.tmp 8) (.tmp 72), none⟩]
def curve_Fit_r17 : List SO := [⟨(some 73), .fieldAddr 45 (.tmp 8) 1, none⟩,
  ⟨(some 74), .load 3 (.tmp 73), none⟩,
  ⟨(some 75), .build 53 #[(0, (.tmp 74)), (1, (.const (.int .i64 1)))], none⟩,
  ⟨(some 9), .alloc 53, none⟩,
  ⟨none, .store 53 (.tmp 9) (.tmp 75), none⟩]
def curve_Fit_r18 : List SO := [⟨(some 76), .move (.tmp 6), none⟩,
  ⟨(some 77), .call ⟨(.builtin .len), #[(.tmp 76)], #[51]⟩, none⟩,
  ⟨(some 78), .binOp .gtr 3 (.tmp 77) (.const (.int .i64 0)) 3, none⟩]
def curve_Fit_r19 : List SO := [⟨(some 79), .move (.tmp 6), none⟩,
  ⟨(some 80), .move (.tmp 6), none⟩,
  ⟨(some 81), .call ⟨(.builtin .len), #[(.tmp 80)], #[51]⟩, none⟩,
  ⟨(some 82), .binOp .sub 3 (.tmp 81) (.const (.int .i64 1)) 3, none⟩,
  ⟨(some 83), .indexAddr 51 (.tmp 79) (.tmp 82), none⟩,
  ⟨(some 84), .load 53 (.tmp 83), none⟩,
  ⟨(some 10), .alloc 53, none⟩,
  ⟨none, .store 53 (.tmp 10) (.tmp 84), none⟩]
def curve_Fit_r20 : List SO := [⟨(some 85), .fieldAddr 53 (.tmp 10) 0, none⟩,
  ⟨(some 86), .load 3 (.tmp 85), none⟩,
  ⟨(some 87), .fieldAddr 53 (.tmp 9) 1, none⟩,
  ⟨(some 88), .load 3 (.tmp 87), none⟩,
  ⟨(some 89), .binOp .mul 3 (.tmp 86) (.tmp 88) 3, none⟩,
  ⟨(some 90), .fieldAddr 53 (.tmp 9) 0, none⟩,
  ⟨(some 91), .load 3 (.tmp 90), none⟩,
  ⟨(some 92), .fieldAddr 53 (.tmp 10) 1, none⟩,
  ⟨(some 93), .load 3 (.tmp 92), none⟩,
  ⟨(some 94), .binOp .mul 3 (.tmp 91) (.tmp 93) 3, none⟩,
  ⟨(some 95), .binOp .leq 3 (.tmp 89) (.tmp 94) 3, none⟩]
def curve_Fit_r21 : List SO := [⟨(some 96), .fieldAddr 53 (.tmp 10) 0, none⟩,
  ⟨(some 97), .load 3 (.tmp 96), none⟩,
  ⟨(some 98), .fieldAddr 53 (.tmp 9) 0, none⟩,
  ⟨(some 99), .load 3 (.tmp 98), none⟩,
  ⟨(some 100), .binOp .add 3 (.tmp 97) (.tmp 99) 3, none⟩,
  ⟨(some 101), .fieldAddr 53 (.tmp 10) 1, none⟩,
  ⟨(some 102), .load 3 (.tmp 101), none⟩,
  ⟨(some 103), .fieldAddr 53 (.tmp 9) 1, none⟩,
  ⟨(some 104), .load 3 (.tmp 103), none⟩,
  ⟨(some 105), .binOp .add 3 (.tmp 102) (.tmp 104) 3, none⟩,
  ⟨(some 106), .build 53 #[(0, (.tmp 100)), (1, (.tmp 105))], none⟩,
  ⟨none, .store 53 (.tmp 9) (.tmp 106), none⟩]
def curve_Fit_r22 : List SO := [⟨(some 107), .move (.tmp 6), none⟩,
  ⟨(some 108), .move (.tmp 6), none⟩,
  ⟨(some 109), .call ⟨(.builtin .len), #[(.tmp 108)], #[51]⟩, none⟩,
  ⟨(some 110), .binOp .sub 3 (.tmp 109) (.const (.int .i64 1)) 3, none⟩,
  ⟨(some 111), .slice 51 (.tmp 107) none (some (.tmp 110)) none, none⟩,
  ⟨(some 6), .assign (.tmp 111), none⟩]
def curve_Fit_r23 : List SO := [⟨(some 112), .move (.tmp 6), none⟩,
  ⟨(some 113), .load 53 (.tmp 9), none⟩,
  ⟨(some 114), .buildSlice 51 1 #[(0, (.tmp 113))], none⟩,
  ⟨(some 115), .call ⟨(.builtin .append), #[(.tmp 112), (.tmp 114)], #[51, 51]⟩, none⟩,
  ⟨(some 6), .assign (.tmp 115), none⟩]
def curve_Fit_r24 : List SO := [⟨(some 116), .binOp .add 3 (.tmp 69) (.const (.int .i64 1)) 3, none⟩,
  ⟨(some 69), .move (.tmp 116), none⟩]
def curve_Fit_r25 : List SO := [⟨(some 11), .assign (.const (.slice none 0 0)), none⟩]
def curve_Fit_r26 : List SO := [⟨(some 12), .assign (.const (.int .i64 0)), none⟩]
def curve_Fit_r27 : List SO := [⟨(some 117), .move (.tmp 6), none⟩,
  ⟨(some 118), .call ⟨(.builtin .len), #[(.tmp 117)], #[51]⟩, none⟩,
  ⟨(some 119), .move (.const (.int .i64 0)), none⟩]
def curve_Fit_r28 : List SO := [⟨(some 120), .binOp .lss 3 (.tmp 119) (.tmp 118) 3, none⟩]
def curve_Fit_r29 : List SO := [⟨(some 121), .indexAddr 51 (.tmp 117) (.tmp 119), none⟩,
  ⟨(some 122), .load 53 (.tmp 121), none⟩,
  ⟨(some 14), .alloc 53, none⟩,
  ⟨none, .store 53 (.tmp 14) (.tmp 122), none⟩]
def curve_Fit_r30 : List SO := [⟨(some 123), .fieldAddr 53 (.tmp 14) 0, none⟩,
  ⟨(some 124), .load 3 (.tmp 123), none⟩,
  ⟨(some 125), .fieldAddr 53 (.tmp 14) 1, none⟩,
  ⟨(some 126), .load 3 (.tmp 125), none⟩,
  ⟨(some 127), .call ⟨(.value (.func 22)), #[(.tmp 124), (.tmp 126)], #[3, 3]⟩, none⟩,
  ⟨(some 15), .assign (.tmp 127), none⟩]
def curve_Fit_r31 : List SO := [⟨(some 128), .fieldAddr 53 (.tmp 14) 1, none⟩,
  ⟨(some 129), .load 3 (.tmp 128), none⟩,
  ⟨(some 130), .move (.const (.int .i64 0)), none⟩]
def curve_Fit_r32 : List SO := [⟨(some 131), .binOp .lss 3 (.tmp 130) (.tmp 129) 3, none⟩]
def curve_Fit_r33 : List SO := [⟨(some 132), .move (.tmp 11), none⟩,
  ⟨(some 133), .move (.tmp 0), none⟩,
  ⟨(some 134), .move (.tmp 12), none⟩,
  ⟨(some 135), .indexAddr 30 (.tmp 133) (.tmp 134), none⟩,
  ⟨(some 136), .fieldAddr 45 (.tmp 135) 0, none⟩,
  ⟨(some 137), .load 3 (.tmp 136), none⟩,
  ⟨(some 138), .move (.tmp 15), none⟩,
  ⟨(some 139), .build 45 #[(0, (.tmp 137)), (1, (.tmp 138))], none⟩,
  ⟨(some 140), .buildSlice 30 1 #[(0, (.tmp 139))], none⟩,
  ⟨(some 141), .call ⟨(.builtin .append), #[(.tmp 132), (.tmp 140)], #[30, 30]⟩, none⟩,
  ⟨(some 11), .assign (.tmp 141), none⟩]
def curve_Fit_r34 : List SO := [⟨(some 142), .move (.tmp 12), none⟩,
  ⟨(some 143), .binOp .add 3 (.tmp 142) (.const (.int .i64 1)) 3, none⟩,
  ⟨(some 12), .assign (.tmp 143), none⟩]
def curve_Fit_r35 : List SO := [⟨(some 144), .binOp .add 3 (.tmp 130) (.const (.int .i64 1)) 3, none⟩,
  ⟨(some 130), .move (.tmp 144), none⟩]
def curve_Fit_r36 : List SO := [⟨(some 145), .binOp .add 3 (.tmp 119) (.const (.int .i64 1)) 3, none⟩,
  ⟨(some 119), .move (.tmp 145), none⟩]
def curve_Fit_r37 : List SO := [⟨(some 146), .move (.tmp 11), none⟩,
  ⟨(some 147), .indexAddr 30 (.tmp 146) (.const (.int .i64 0)), none⟩,
  ⟨(some 148), .load 45 (.tmp 147), none⟩,
  ⟨(some 16), .alloc 45, none⟩,
  ⟨none, .store 45 (.tmp 16) (.tmp 148), none⟩]
def curve_Fit_r38 : List SO := [⟨(some 149), .fieldAddr 45 (.tmp 16) 0, none⟩,
  ⟨(some 150), .load 3 (.tmp 149), none⟩,
  ⟨(some 151), .binOp .gtr 3 (.tmp 150) (.const (.int .i64 0)) 3, none⟩]
def curve_Fit_r39 : List SO := [⟨(some 152), .fieldAddr 45 (.tmp 16) 1, none⟩,
  ⟨(some 153), .load 3 (.tmp 152), none⟩,
  ⟨(some 154), .build 45 #[(0, (.const (.int .i64 0))), (1, (.tmp 153))], none⟩,
  ⟨(some 155), .buildSlice 30 1 #[(0, (.tmp 154))], none⟩,
  ⟨(some 156), .move (.tmp 11), none⟩,
  ⟨(some 157), .call ⟨(.builtin .append), #[(.tmp 155), (.tmp 156)], #[30, 30]⟩, none⟩,
  ⟨(some 11), .assign (.tmp 157), none⟩]
def curve_Fit_r40 : List SO := [⟨(some 158), .move (.tmp 11), none⟩,
  ⟨(some 159), .move (.tmp 11), none⟩,
  ⟨(some 160), .call ⟨(.builtin .len), #[(.tmp 159)], #[30]⟩, none⟩,
  ⟨(some 161), .binOp .sub 3 (.tmp 160) (.const (.int .i64 1)) 3, none⟩,
  ⟨(some 162), .indexAddr 30 (.tmp 158) (.tmp 161), none⟩,
  ⟨(some 163), .load 45 (.tmp 162), none⟩,
  ⟨(some 17), .alloc 45, none⟩,
  ⟨none, .store 45 (.tmp 17) (.tmp 163), none⟩]
def curve_Fit_r41 : List SO := [⟨(some 164), .fieldAddr 45 (.tmp 17) 0, none⟩,
  ⟨(some 165), .load 3 (.tmp 164), none⟩,
  ⟨(some 166), .binOp .lss 3 (.tmp 165) (.const (.int .i64 65280)) 3, none⟩]
def curve_Fit_r42 : List SO := [⟨(some 167), .move (.tmp 11), none⟩,
  ⟨(some 168), .fieldAddr 45 (.tmp 17) 1, none⟩,
  ⟨(some 169), .load 3 (.tmp 168), none⟩,
  ⟨(some 170), .build 45 #[(0, (.const (.int .i64 65280))), (1, (.tmp 169))], none⟩,
  ⟨(some 171), .buildSlice 30 1 #[(0, (.tmp 170))], none⟩,
  ⟨(some 172), .call ⟨(.builtin .append), #[(.tmp 167), (.tmp 171)], #[30, 30]⟩, none⟩,
  ⟨(some 11), .assign (.tmp 172), none⟩]
def curve_Fit_r43 : List SO := [⟨(some 173), .move (.tmp 11), none⟩,
  ⟨(some 174), .build 32 #[(0, (.tmp 173))], none⟩,
  ⟨none, .store 32 (.tmp 2) (.tmp 174), none⟩,
  ⟨(some 3), .assign (.const (.int .i64 0)), none⟩]
def curve_Fit_c : SF := ⟨175, (.seq (.reg curve_Fit_r0)
  (.seq (.seq (.reg curve_Fit_r1)
  (.cond (.tmp 20) (.seq (.reg curve_Fit_r2)
  .ret) .skip))
  (.seq (.seq (.reg curve_Fit_r3)
  (.cond (.tmp 24) (.seq (.reg curve_Fit_r4)
  .ret) .skip))
  (.seq (.seq (.reg curve_Fit_r5)
  (.block 0 (.loop (.seq (.reg curve_Fit_r6)
  (.seq (.cond (.tmp 29) .skip (.exit 0))
  (.seq (.block 1 (.seq (.reg curve_Fit_r7)
  (.seq (.seq (.reg curve_Fit_r8)
  (.cond (.tmp 50) (.seq (.reg curve_Fit_r9)
  .ret) .skip))
  (.seq (.regq curve_Fit_r10)
  (.cond (.tmp 64) (.seq (.reg curve_Fit_r11)
  .ret) .skip)))))
  (.reg curve_Fit_r12)))))))
  (.seq (.reg curve_Fit_r13)
  (.seq (.seq (.reg curve_Fit_r14)
  (.block 2 (.loop (.seq (.reg curve_Fit_r15)
  (.seq (.cond (.tmp 70) .skip (.exit 2))
  (.seq (.block 3 (.seq (.reg curve_Fit_r16)
  (.seq (.reg curve_Fit_r17)
  (.seq (.block 4 (.loop (.seq (.seq (.reg curve_Fit_r18)
  (.cond (.tmp 78) .skip (.exit 4)))
  (.block 5 (.seq (.reg curve_Fit_r19)
  (.seq (.seq (.reg curve_Fit_r20)
  (.cond (.tmp 95) (.exit 4) .skip))
  (.seq (.reg curve_Fit_r21)
  (.reg curve_Fit_r22))))))))
  (.reg curve_Fit_r23)))))
  (.reg curve_Fit_r24)))))))
  (.seq (.reg curve_Fit_r25)
  (.seq (.reg curve_Fit_r26)
  (.seq (.seq (.reg curve_Fit_r27)
  (.block 6 (.loop (.seq (.reg curve_Fit_r28)
  (.seq (.cond (.tmp 120) .skip (.exit 6))
  (.seq (.block 7 (.seq (.reg curve_Fit_r29)
  (.seq (.reg curve_Fit_r30)
  (.seq (.reg curve_Fit_r31)
  (.block 8 (.loop (.seq (.reg curve_Fit_r32)
  (.seq (.cond (.tmp 131) .skip (.exit 8))
  (.seq (.block 9 (.seq (.reg curve_Fit_r33)
  (.reg curve_Fit_r34)))
  (.reg curve_Fit_r35))))))))))
  (.reg curve_Fit_r36)))))))
  (.seq (.seq (.reg curve_Fit_r37)
  (.seq (.reg curve_Fit_r38)
  (.cond (.tmp 151) (.reg curve_Fit_r39) .skip)))
  (.seq (.seq (.reg curve_Fit_r40)
  (.seq (.reg curve_Fit_r41)
  (.cond (.tmp 166) (.reg curve_Fit_r42) .skip)))
  (.seq (.reg curve_Fit_r43)
  .ret)))))))))))), [.cell 2 32, .tmp 3]⟩
theorem curve_Fit_s : slimF Try.prog 26 = some curve_Fit_c := by kernel_rfl
def curve_Check_r0 : List SO := [⟨(some 1), .box 32 (.tmp 0), none⟩,
  ⟨(some 2), .assign (.const (.int .i64 0)), none⟩]
def curve_Check_r1 : List SO := [⟨(some 6), .fieldAddr 32 (.tmp 1) 0, none⟩,
  ⟨(some 7), .load 30 (.tmp 6), none⟩,
  ⟨(some 8), .call ⟨(.builtin .len), #[(.tmp 7)], #[30]⟩, none⟩,
  ⟨(some 3), .assign (.tmp 8), none⟩]
def curve_Check_r2 : List SO := [⟨(some 10), .move (.tmp 3), none⟩,
  ⟨(some 11), .binOp .gtr 3 (.tmp 10) (.const (.int .i64 33)) 3, none⟩,
  ⟨(some 9), .assign (.tmp 11), none⟩]
def curve_Check_r3 : List SO := [⟨(some 2), .assign (.const (.int .i64 2)), none⟩]
def curve_Check_r4 : List SO := [⟨(some 13), .move (.tmp 3), none⟩,
  ⟨(some 14), .binOp .lss 3 (.tmp 13) (.const (.int .i64 2)) 3, none⟩,
  ⟨(some 12), .assign (.tmp 14), none⟩]
def curve_Check_r5 : List SO := [⟨(some 2), .assign (.const (.int .i64 1)), none⟩]
def curve_Check_r6 : List SO := [⟨(some 15), .fieldAddr 32 (.tmp 1) 0, none⟩,
  ⟨(some 16), .load 30 (.tmp 15), none⟩,
  ⟨(some 17), .call ⟨(.builtin .len), #[(.tmp 16)], #[30]⟩, none⟩,
  ⟨(some 18), .move (.const (.int .i64 0)), none⟩]
def curve_Check_r7 : List SO := [⟨(some 19), .binOp .lss 3 (.tmp 18) (.tmp 17) 3, none⟩]
def curve_Check_r8 : List SO := [⟨(some 20), .move (.tmp 18), none⟩,
  ⟨(some 21), .indexAddr 30 (.tmp 16) (.tmp 18), none⟩,
  ⟨(some 22), .load 45 (.tmp 21), none⟩,
  ⟨(some 5), .alloc 45, none⟩,
  ⟨(some 4), .assign (.tmp 20), none⟩,
  ⟨none, .store 45 (.tmp 5) (.tmp 22), none⟩]
def curve_Check_r9 : List SO := [⟨(some 23), .fieldAddr 45 (.tmp 5) 0, none⟩,
  ⟨(some 24), .load 3 (.tmp 23), none⟩,
  ⟨(some 25), .binOp .lss 3 (.tmp 24) (.const (.int .i64 0)) 3, none⟩,
  ⟨(some 26), .move (.tmp 25), none⟩,
  ⟨(some 27), .fieldAddr 45 (.tmp 5) 0, (some (26, false))⟩,
  ⟨(some 28), .load 3 (.tmp 27), (some (26, false))⟩,
  ⟨(some 29), .binOp .gtr 3 (.tmp 28) (.const (.int .i64 65280)) 3, (some (26, false))⟩,
  ⟨(some 30), .pick (.tmp 26) (.const (.bool true)) (.tmp 29), none⟩,
  ⟨(some 31), .move (.tmp 30), none⟩,
  ⟨(some 32), .fieldAddr 45 (.tmp 5) 1, (some (31, false))⟩,
  ⟨(some 33), .load 3 (.tmp 32), (some (31, false))⟩,
  ⟨(some 34), .binOp .lss 3 (.tmp 33) (.const (.int .i64 0)) 3, (some (31, false))⟩,
  ⟨(some 35), .pick (.tmp 31) (.const (.bool true)) (.tmp 34), none⟩,
  ⟨(some 36), .move (.tmp 35), none⟩,
  ⟨(some 37), .fieldAddr 45 (.tmp 5) 1, (some (36, false))⟩,
  ⟨(some 38), .load 3 (.tmp 37), (some (36, false))⟩,
  ⟨(some 39), .binOp .gtr 3 (.tmp 38) (.const (.int .i64 65280)) 3, (some (36, false))⟩,
  ⟨(some 40), .pick (.tmp 36) (.const (.bool true)) (.tmp 39), none⟩]
def curve_Check_r10 : List SO := [⟨(some 2), .assign (.const (.int .i64 3)), none⟩]
def curve_Check_r11 : List SO := [⟨(some 41), .move (.tmp 4), none⟩,
  ⟨(some 42), .binOp .gtr 3 (.tmp 41) (.const (.int .i64 0)) 3, none⟩,
  ⟨(some 43), .move (.tmp 42), none⟩,
  ⟨(some 44), .fieldAddr 45 (.tmp 5) 0, (some (43, true))⟩,
  ⟨(some 45), .load 3 (.tmp 44), (some (43, true))⟩,
  ⟨(some 46), .fieldAddr 32 (.tmp 1) 0, (some (43, true))⟩,
  ⟨(some 47), .load 30 (.tmp 46), (some (43, true))⟩,
  ⟨(some 48), .move (.tmp 4), (some (43, true))⟩,
  ⟨(some 49), .binOp .sub 3 (.tmp 48) (.const (.int .i64 1)) 3, (some (43, true))⟩,
  ⟨(some 50), .indexAddr 30 (.tmp 47) (.tmp 49), (some (43, true))⟩,
  ⟨(some 51), .fieldAddr 45 (.tmp 50) 0, (some (43, true))⟩,
  ⟨(some 52), .load 3 (.tmp 51), (some (43, true))⟩,
  ⟨(some 53), .binOp .leq 3 (.tmp 45) (.tmp 52) 3, (some (43, true))⟩,
  ⟨(some 54), .move (.tmp 53), (some (43, true))⟩,
  ⟨(some 55), .fieldAddr 45 (.tmp 5) 1, (some (54, false))⟩,
  ⟨(some 56), .load 3 (.tmp 55), (some (54, false))⟩,
  ⟨(some 57), .fieldAddr 32 (.tmp 1) 0, (some (54, false))⟩,
  ⟨(some 58), .load 30 (.tmp 57), (some (54, false))⟩,
  ⟨(some 59), .move (.tmp 4), (some (54, false))⟩,
  ⟨(some 60), .binOp .sub 3 (.tmp 59) (.const (.int .i64 1)) 3, (some (54, false))⟩,
  ⟨(some 61), .indexAddr 30 (.tmp 58) (.tmp 60), (some (54, false))⟩,
  ⟨(some 62), .fieldAddr 45 (.tmp 61) 1, (some (54, false))⟩,
  ⟨(some 63), .load 3 (.tmp 62), (some (54, false))⟩,
  ⟨(some 64), .binOp .lss 3 (.tmp 56) (.tmp 63) 3, (some (54, false))⟩,
  ⟨(some 65), .pick (.tmp 54) (.const (.bool true)) (.tmp 64), (some (43, true))⟩,
  ⟨(some 66), .pick (.tmp 43) (.tmp 65) (.const (.bool false)), none⟩]
def curve_Check_r12 : List SO := [⟨(some 2), .assign (.const (.int .i64 18)), none⟩]
def curve_Check_r13 : List SO := [⟨(some 67), .binOp .add 3 (.tmp 18) (.const (.int .i64 1)) 3, none⟩,
  ⟨(some 18), .move (.tmp 67), none⟩]
def curve_Check_r14 : List SO := [⟨(some 68), .fieldAddr 32 (.tmp 1) 0, none⟩,
  ⟨(some 69), .load 30 (.tmp 68), none⟩,
  ⟨(some 70), .indexAddr 30 (.tmp 69) (.const (.int .i64 0)), none⟩,
  ⟨(some 71), .fieldAddr 45 (.tmp 70) 0, none⟩,
  ⟨(some 72), .load 3 (.tmp 71), none⟩,
  ⟨(some 73), .binOp .neq 3 (.tmp 72) (.const (.int .i64 0)) 3, none⟩,
  ⟨(some 74), .move (.tmp 73), none⟩,
  ⟨(some 75), .fieldAddr 32 (.tmp 1) 0, (some (74, false))⟩,
  ⟨(some 76), .load 30 (.tmp 75), (some (74, false))⟩,
  ⟨(some 77), .fieldAddr 32 (.tmp 1) 0, (some (74, false))⟩,
  ⟨(some 78), .load 30 (.tmp 77), (some (74, false))⟩,
  ⟨(some 79), .call ⟨(.builtin .len), #[(.tmp 78)], #[30]⟩, (some (74, false))⟩,
  ⟨(some 80), .binOp .sub 3 (.tmp 79) (.const (.int .i64 1)) 3, (some (74, false))⟩,
  ⟨(some 81), .indexAddr 30 (.tmp 76) (.tmp 80), (some (74, false))⟩,
  ⟨(some 82), .fieldAddr 45 (.tmp 81) 0, (some (74, false))⟩,
  ⟨(some 83), .load 3 (.tmp 82), (some (74, false))⟩,
  ⟨(some 84), .binOp .neq 3 (.tmp 83) (.const (.int .i64 65280)) 3, (some (74, false))⟩,
  ⟨(some 85), .pick (.tmp 74) (.const (.bool true)) (.tmp 84), none⟩]
def curve_Check_r15 : List SO := [⟨(some 2), .assign (.const (.int .i64 4)), none⟩]
def curve_Check_r16 : List SO := [⟨(some 2), .assign (.const (.int .i64 0)), none⟩]
def curve_Check_c : SF := ⟨86, (.seq (.reg curve_Check_r0)
  (.seq (.seq (.reg curve_Check_r1)
  (.block 0 (.seq (.reg curve_Check_r2)
  (.cond (.tmp 9) (.seq (.reg curve_Check_r3)
  .ret) (.seq (.reg curve_Check_r4)
  (.cond (.tmp 12) (.seq (.reg curve_Check_r5)
  .ret) .skip))))))
  (.seq (.seq (.reg curve_Check_r6)
  (.block 1 (.loop (.seq (.reg curve_Check_r7)
  (.seq (.cond (.tmp 19) .skip (.exit 1))
  (.seq (.block 2 (.seq (.reg curve_Check_r8)
  (.seq (.seq (.reg curve_Check_r9)
  (.cond (.tmp 40) (.seq (.reg curve_Check_r10)
  .ret) .skip))
  (.seq (.regq curve_Check_r11)
  (.cond (.tmp 66) (.seq (.reg curve_Check_r12)
  .ret) .skip)))))
  (.reg curve_Check_r13)))))))
  (.seq (.seq (.reg curve_Check_r14)
  (.cond (.tmp 85) (.seq (.reg curve_Check_r15)
  .ret) .skip))
  (.seq (.reg curve_Check_r16)
  .ret))))), [.tmp 2]⟩
theorem curve_Check_s : slimF Try.prog 27 = some curve_Check_c := by kernel_rfl
def curve_least_r0 : List SO := [⟨(some 2), .box 32 (.tmp 0), none⟩,
  ⟨(some 4), .assign (.const (.int .i64 0)), none⟩]
def curve_least_r1 : List SO := [⟨(some 5), .assign (.const (.int .i64 (-1))), none⟩,
  ⟨(some 6), .assign (.const (.int .i64 65280)), none⟩]
def curve_least_r2 : List SO := [⟨(some 8), .move (.tmp 6), none⟩,
  ⟨(some 9), .move (.tmp 5), none⟩,
  ⟨(some 10), .binOp .sub 3 (.tmp 8) (.tmp 9) 3, none⟩,
  ⟨(some 11), .binOp .gtr 3 (.tmp 10) (.const (.int .i64 1)) 3, none⟩]
def curve_least_r3 : List SO := [⟨(some 12), .move (.tmp 5), none⟩,
  ⟨(some 13), .move (.tmp 6), none⟩,
  ⟨(some 14), .binOp .add 3 (.tmp 12) (.tmp 13) 3, none⟩,
  ⟨(some 15), .binOp .quo 3 (.tmp 14) (.const (.int .i64 2)) 3, none⟩,
  ⟨(some 7), .assign (.tmp 15), none⟩]
def curve_least_r4 : List SO := [⟨(some 16), .load 32 (.tmp 2), none⟩,
  ⟨(some 17), .move (.tmp 7), none⟩,
  ⟨(some 18), .call ⟨(.value (.func 29)), #[(.tmp 16), (.tmp 17)], #[32, 3]⟩, none⟩,
  ⟨(some 19), .move (.tmp 1), none⟩,
  ⟨(some 20), .binOp .geq 3 (.tmp 18) (.tmp 19) 3, none⟩]
def curve_least_r5 : List SO := [⟨(some 21), .move (.tmp 7), none⟩,
  ⟨(some 6), .assign (.tmp 21), none⟩]
def curve_least_r6 : List SO := [⟨(some 22), .move (.tmp 7), none⟩,
  ⟨(some 5), .assign (.tmp 22), none⟩]
def curve_least_r7 : List SO := [⟨(some 23), .move (.tmp 6), none⟩,
  ⟨(some 4), .assign (.tmp 23), none⟩]
def curve_least_c : SF := ⟨24, (.seq (.reg curve_least_r0)
  (.seq (.reg curve_least_r1)
  (.seq (.block 0 (.loop (.seq (.seq (.reg curve_least_r2)
  (.cond (.tmp 11) .skip (.exit 0)))
  (.block 1 (.seq (.reg curve_least_r3)
  (.seq (.reg curve_least_r4)
  (.cond (.tmp 20) (.reg curve_least_r5) (.reg curve_least_r6))))))))
  (.seq (.reg curve_least_r7)
  .ret)))), [.tmp 4]⟩
theorem curve_least_s : slimF Try.prog 28 = some curve_least_c := by kernel_rfl
def curve_Raw_r0 : List SO := [⟨(some 2), .box 32 (.tmp 0), none⟩,
  ⟨(some 4), .assign (.const (.int .i64 0)), none⟩]
def curve_Raw_r1 : List SO := [⟨(some 10), .fieldAddr 32 (.tmp 2) 0, none⟩,
  ⟨(some 11), .load 30 (.tmp 10), none⟩,
  ⟨(some 12), .call ⟨(.builtin .len), #[(.tmp 11)], #[30]⟩, none⟩,
  ⟨(some 13), .binOp .sub 3 (.tmp 12) (.const (.int .i64 1)) 3, none⟩,
  ⟨(some 5), .assign (.const (.int .i64 0)), none⟩,
  ⟨(some 6), .assign (.tmp 13), none⟩]
def curve_Raw_r2 : List SO := [⟨(some 14), .move (.tmp 6), none⟩,
  ⟨(some 15), .move (.tmp 5), none⟩,
  ⟨(some 16), .binOp .sub 3 (.tmp 14) (.tmp 15) 3, none⟩,
  ⟨(some 17), .binOp .gtr 3 (.tmp 16) (.const (.int .i64 1)) 3, none⟩]
def curve_Raw_r3 : List SO := [⟨(some 18), .move (.tmp 5), none⟩,
  ⟨(some 19), .move (.tmp 6), none⟩,
  ⟨(some 20), .binOp .add 3 (.tmp 18) (.tmp 19) 3, none⟩,
  ⟨(some 21), .binOp .quo 3 (.tmp 20) (.const (.int .i64 2)) 3, none⟩,
  ⟨(some 7), .assign (.tmp 21), none⟩]
def curve_Raw_r4 : List SO := [⟨(some 22), .fieldAddr 32 (.tmp 2) 0, none⟩,
  ⟨(some 23), .load 30 (.tmp 22), none⟩,
  ⟨(some 24), .move (.tmp 7), none⟩,
  ⟨(some 25), .indexAddr 30 (.tmp 23) (.tmp 24), none⟩,
  ⟨(some 26), .fieldAddr 45 (.tmp 25) 0, none⟩,
  ⟨(some 27), .load 3 (.tmp 26), none⟩,
  ⟨(some 28), .move (.tmp 1), none⟩,
  ⟨(some 29), .binOp .leq 3 (.tmp 27) (.tmp 28) 3, none⟩]
def curve_Raw_r5 : List SO := [⟨(some 30), .move (.tmp 7), none⟩,
  ⟨(some 5), .assign (.tmp 30), none⟩]
def curve_Raw_r6 : List SO := [⟨(some 31), .move (.tmp 7), none⟩,
  ⟨(some 6), .assign (.tmp 31), none⟩]
def curve_Raw_r7 : List SO := [⟨(some 32), .fieldAddr 32 (.tmp 2) 0, none⟩,
  ⟨(some 33), .load 30 (.tmp 32), none⟩,
  ⟨(some 34), .move (.tmp 5), none⟩,
  ⟨(some 35), .indexAddr 30 (.tmp 33) (.tmp 34), none⟩,
  ⟨(some 36), .load 45 (.tmp 35), none⟩,
  ⟨(some 37), .fieldAddr 32 (.tmp 2) 0, none⟩,
  ⟨(some 38), .load 30 (.tmp 37), none⟩,
  ⟨(some 39), .move (.tmp 6), none⟩,
  ⟨(some 40), .indexAddr 30 (.tmp 38) (.tmp 39), none⟩,
  ⟨(some 41), .load 45 (.tmp 40), none⟩,
  ⟨(some 8), .alloc 45, none⟩,
  ⟨(some 9), .alloc 45, none⟩,
  ⟨none, .store 45 (.tmp 8) (.tmp 36), none⟩,
  ⟨none, .store 45 (.tmp 9) (.tmp 41), none⟩]
def curve_Raw_r8 : List SO := [⟨(some 42), .fieldAddr 45 (.tmp 8) 1, none⟩,
  ⟨(some 43), .load 3 (.tmp 42), none⟩,
  ⟨(some 44), .fieldAddr 45 (.tmp 9) 1, none⟩,
  ⟨(some 45), .load 3 (.tmp 44), none⟩,
  ⟨(some 46), .fieldAddr 45 (.tmp 8) 1, none⟩,
  ⟨(some 47), .load 3 (.tmp 46), none⟩,
  ⟨(some 48), .binOp .sub 3 (.tmp 45) (.tmp 47) 3, none⟩,
  ⟨(some 49), .move (.tmp 1), none⟩,
  ⟨(some 50), .fieldAddr 45 (.tmp 8) 0, none⟩,
  ⟨(some 51), .load 3 (.tmp 50), none⟩,
  ⟨(some 52), .binOp .sub 3 (.tmp 49) (.tmp 51) 3, none⟩,
  ⟨(some 53), .binOp .mul 3 (.tmp 48) (.tmp 52) 3, none⟩,
  ⟨(some 54), .fieldAddr 45 (.tmp 9) 0, none⟩,
  ⟨(some 55), .load 3 (.tmp 54), none⟩,
  ⟨(some 56), .fieldAddr 45 (.tmp 8) 0, none⟩,
  ⟨(some 57), .load 3 (.tmp 56), none⟩,
  ⟨(some 58), .binOp .sub 3 (.tmp 55) (.tmp 57) 3, none⟩,
  ⟨(some 59), .call ⟨(.value (.func 22)), #[(.tmp 53), (.tmp 58)], #[3, 3]⟩, none⟩,
  ⟨(some 60), .binOp .add 3 (.tmp 43) (.tmp 59) 3, none⟩,
  ⟨(some 4), .assign (.tmp 60), none⟩]
def curve_Raw_c : SF := ⟨61, (.seq (.reg curve_Raw_r0)
  (.seq (.regq curve_Raw_r1)
  (.seq (.block 0 (.loop (.seq (.seq (.reg curve_Raw_r2)
  (.cond (.tmp 17) .skip (.exit 0)))
  (.block 1 (.seq (.reg curve_Raw_r3)
  (.seq (.reg curve_Raw_r4)
  (.cond (.tmp 29) (.reg curve_Raw_r5) (.reg curve_Raw_r6))))))))
  (.seq (.regq curve_Raw_r7)
  (.seq (.regq curve_Raw_r8)
  .ret))))), [.tmp 4]⟩
theorem curve_Raw_s : slimF Try.prog 29 = some curve_Raw_c := by kernel_rfl
def math_bits_Len64_r0 : List SO := [⟨(some 2), .assign (.const (.int .i64 0)), none⟩]
def math_bits_Len64_r1 : List SO := [⟨(some 3), .move (.tmp 0), none⟩,
  ⟨(some 4), .binOp .geq 49 (.tmp 3) (.const (.int .u64 4294967296)) 49, none⟩]
def math_bits_Len64_r2 : List SO := [⟨(some 5), .move (.tmp 0), none⟩,
  ⟨(some 6), .binOp .shr 49 (.tmp 5) (.const (.int .u64 32)) 50, none⟩,
  ⟨(some 0), .assign (.tmp 6), none⟩]
def math_bits_Len64_r3 : List SO := [⟨(some 2), .assign (.const (.int .i64 32)), none⟩]
def math_bits_Len64_r4 : List SO := [⟨(some 7), .move (.tmp 0), none⟩,
  ⟨(some 8), .binOp .geq 49 (.tmp 7) (.const (.int .u64 65536)) 49, none⟩]
def math_bits_Len64_r5 : List SO := [⟨(some 9), .move (.tmp 0), none⟩,
  ⟨(some 10), .binOp .shr 49 (.tmp 9) (.const (.int .u64 16)) 50, none⟩,
  ⟨(some 0), .assign (.tmp 10), none⟩]
def math_bits_Len64_r6 : List SO := [⟨(some 11), .move (.tmp 2), none⟩,
  ⟨(some 12), .binOp .add 3 (.tmp 11) (.const (.int .i64 16)) 3, none⟩,
  ⟨(some 2), .assign (.tmp 12), none⟩]
def math_bits_Len64_r7 : List SO := [⟨(some 13), .move (.tmp 0), none⟩,
  ⟨(some 14), .binOp .geq 49 (.tmp 13) (.const (.int .u64 256)) 49, none⟩]
def math_bits_Len64_r8 : List SO := [⟨(some 15), .move (.tmp 0), none⟩,
  ⟨(some 16), .binOp .shr 49 (.tmp 15) (.const (.int .u64 8)) 50, none⟩,
  ⟨(some 0), .assign (.tmp 16), none⟩]
def math_bits_Len64_r9 : List SO := [⟨(some 17), .move (.tmp 2), none⟩,
  ⟨(some 18), .binOp .add 3 (.tmp 17) (.const (.int .i64 8)) 3, none⟩,
  ⟨(some 2), .assign (.tmp 18), none⟩]
def math_bits_Len64_r10 : List SO := [⟨(some 19), .move (.tmp 2), none⟩,
  ⟨(some 20), .move (.tmp 0), none⟩,
  ⟨(some 21), .convert 49 5 (.tmp 20), none⟩,
  ⟨(some 22), .index 9 (.const (.string str_1)) (.tmp 21), none⟩,
  ⟨(some 23), .convert 5 3 (.tmp 22), none⟩,
  ⟨(some 24), .binOp .add 3 (.tmp 19) (.tmp 23) 3, none⟩,
  ⟨(some 2), .assign (.tmp 24), none⟩]
def math_bits_Len64_c : SF := ⟨25, (.seq (.reg math_bits_Len64_r0)
  (.seq (.seq (.reg math_bits_Len64_r1)
  (.cond (.tmp 4) (.seq (.reg math_bits_Len64_r2)
  (.reg math_bits_Len64_r3)) .skip))
  (.seq (.seq (.reg math_bits_Len64_r4)
  (.cond (.tmp 8) (.seq (.reg math_bits_Len64_r5)
  (.reg math_bits_Len64_r6)) .skip))
  (.seq (.seq (.reg math_bits_Len64_r7)
  (.cond (.tmp 14) (.seq (.reg math_bits_Len64_r8)
  (.reg math_bits_Len64_r9)) .skip))
  (.seq (.reg math_bits_Len64_r10)
  .ret))))), [.tmp 2]⟩
theorem math_bits_Len64_s : slimF Try.prog 30 = some math_bits_Len64_c := by kernel_rfl

def tbl : List (Nat × SF) := [(3, K2_DensityProducts_c), (4, K2_DensityReturns_c), (5, K2_DensityGalois_c), (6, K2_CurveGalois_c), (7, K2_CurveMonotone_c), (8, K2_densityWorks_c), (9, R2_Mod_c), (10, density_Log2_c), (11, density_Tint_c), (12, density_Area_c), (13, density_Reflectance_c), (14, density_Density_c), (15, K2_curveWorks_c), (16, curve_Inverse_c), (17, curve_At_c), (18, density_Contrast_c), (19, R2_Floor_c), (20, density_log_c), (21, density_solid_c), (22, curve_Nearest_c), (23, density_of_c), (24, K2_bent_c), (25, curve_Table_c), (26, curve_Fit_c), (27, curve_Check_c), (28, curve_least_c), (29, curve_Raw_c), (30, math_bits_Len64_c)]
theorem tbl_ok : ∀ f sf, find tbl f = some sf → slimF Try.prog f = some sf :=
  find_ok tbl ⟨K2_DensityProducts_s, K2_DensityReturns_s, K2_DensityGalois_s, K2_CurveGalois_s, K2_CurveMonotone_s, K2_densityWorks_s, R2_Mod_s, density_Log2_s, density_Tint_s, density_Area_s, density_Reflectance_s, density_Density_s, K2_curveWorks_s, curve_Inverse_s, curve_At_s, density_Contrast_s, R2_Floor_s, density_log_s, density_solid_s, curve_Nearest_s, density_of_s, K2_bent_s, curve_Table_s, curve_Fit_s, curve_Check_s, curve_least_s, curve_Raw_s, math_bits_Len64_s, trivial⟩

end Go.Proofs.Ytlcpbpkffdnmnaa
