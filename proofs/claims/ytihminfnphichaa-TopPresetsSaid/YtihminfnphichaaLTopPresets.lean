/- Printed by program (gen.lean): code in few words; the kernel checks it against the translation. -/
import Derived.Test.YtihminfnphichaaX0
namespace Go.Proofs.Ytihminfnphichaa
open Go Go.Lite
set_option linter.unusedVariables false

/-- printworks/printworkstop.TopPresets -/
def T_TopPresets_r0 : List SO := [rZ 5 (.box 24 (tZ 1)), rZ 8 (.assign (.const (.bool false)))]
def T_TopPresets_r1 : List SO := [rZ 25 (.call ⟨(.value (.func (5 : Nat))), #[], #[]⟩), rZ 26 (.unOp .not 4 (tZ 25))]
def T_TopPresets_r2 : List SO := [rZ 8 (.assign (.const (.bool false)))]
def T_TopPresets_r3 : List SO := [mvZ 27 0, rZ 28 (.call ⟨(.builtin .len), #[(tZ 27)], #[22]⟩), mvZ 29 3, rZ 30 (.call ⟨(.builtin .len), #[(tZ 29)], #[25]⟩), rZ 31 (.call ⟨(.builtin .min), #[(tZ 28), (tZ 30), (ciZ 3)], #[3, 3, 3]⟩), asZ 9 31]
def T_TopPresets_r4 : List SO := [mvZ 32 2, rZ 33 (.call ⟨(.value (.func (6 : Nat))), #[(tZ 32), (ciZ 4)], #[3, 3]⟩), rZ 34 (.binOp .add 3 (ciZ 1) (tZ 33) 3), asZ 2 34]
def T_TopPresets_r5 : List SO := [rZ 10 (.assign (.const (.slice none 0 0)))]
def T_TopPresets_r6 : List SO := [rZ 11 (.assign (.const (.slice none 0 0)))]
def T_TopPresets_r7 : List SO := [mvZ 35 9, rZ 36 (.move (ciZ 0))]
def T_TopPresets_r8 : List SO := [boZ 37 .lss 3 36 35 3]
def T_TopPresets_r9 : List SO := [mvZ 38 36, asZ 12 38]
def T_TopPresets_r10 : List SO := [mvZ 39 0, mvZ 40 12, iaZ 41 22 39 40, faZ 42 31 41 2, ldZ 43 29 42, rZ 44 (.call ⟨(.builtin .len), #[(tZ 43)], #[29]⟩), bcZ 45 .gtr 3 44 2000 3]
def T_TopPresets_r11 : List SO := [rZ 8 (.assign (.const (.bool true)))]
def T_TopPresets_r12 : List SO := [mvZ 47 0, mvZ 48 12, iaZ 49 22 47 48, ldZ 50 31 49, ldZ 51 24 5, rZ 52 (.call ⟨(.value (.func (7 : Nat))), #[(tZ 50), (tZ 51)], #[31, 24]⟩), mvZ 46 52, exZ 53 46 0, exZ 54 46 1, rZ 13 (.alloc 33), stZ 33 13 53, asZ 14 54]
def T_TopPresets_a12 : List (List Nat) := [[], [], [0, 1], [2], [], [3, 4], [5], [6], [6], [], [9, 7, 5, 0, 1, 2, 3, 4, 5, 6, 7, 9], [8, 10, 0, 1, 2, 3, 4, 5, 6, 7, 8, 9, 10]]
def T_TopPresets_r13 : List SO := [mvZ 55 14, bcZ 56 .neq 34 55 0 34, mvZ 57 56, gZ 57 false (faZ 58 33 13 0), gZ 57 false (ldZ 59 3 58), gZ 57 false (mvZ 60 2), gZ 57 false (boZ 61 .lss 3 59 60 3), rZ 62 (.pick (tZ 57) (.const (.bool true)) (tZ 61))]
def T_TopPresets_r14 : List SO := [rZ 8 (.assign (.const (.bool true)))]
def T_TopPresets_r15 : List SO := [mvZ 63 10, ldZ 64 33 13, rZ 65 (.buildSlice 28 1 #[(0, (tZ 64))]), rZ 66 (.call ⟨(.builtin .append), #[(tZ 63), (tZ 65)], #[28, 28]⟩), mvZ 67 11, mvZ 68 3, mvZ 69 12, iaZ 70 25 68 69, ldZ 71 3 70, rZ 72 (.call ⟨(.value (.func (6 : Nat))), #[(tZ 71), (ciZ 8001)], #[3, 3]⟩), rZ 73 (.buildSlice 25 1 #[(0, (tZ 72))]), rZ 74 (.call ⟨(.builtin .append), #[(tZ 67), (tZ 73)], #[25, 25]⟩), asZ 10 66, asZ 11 74]
def T_TopPresets_a15 : List (List Nat) := [[], [], [1], [0, 2], [], [], [], [5, 6], [7], [8, 3], [9], [4, 10, 9], [3, 11, 0, 1, 2, 3], [11, 12, 0, 1, 2, 3, 4, 5, 6, 7, 8, 9, 10, 11, 12]]
def T_TopPresets_r16 : List SO := [bcZ 75 .add 3 36 1 3, mvZ 36 75]
def T_TopPresets_r17 : List SO := [mvZ 76 9, bcZ 77 .eql 3 76 0 3]
def T_TopPresets_r18 : List SO := [rZ 8 (.assign (.const (.bool true)))]
def T_TopPresets_r19 : List SO := [mvZ 79 10, mvZ 80 2, mvZ 81 11, rZ 82 (.call ⟨(.value (.func (8 : Nat))), #[(tZ 79), (tZ 80), (tZ 81)], #[28, 3, 25]⟩), mvZ 78 82, exZ 83 78 0, exZ 84 78 1, exZ 85 78 2, asZ 15 83, asZ 16 84, asZ 17 85]
def T_TopPresets_r20 : List SO := [mvZ 87 2, mvZ 88 11, mvZ 89 16, mvZ 90 15, rZ 91 (.build 44 #[(0, (tZ 87)), (3, (ciZ 24)), (4, (tZ 88)), (5, (tZ 89)), (6, (tZ 90))]), rZ 92 (.call ⟨(.value (.func (9 : Nat))), #[(tZ 91), (.const (.slice none 0 0)), (ciZ 130)], #[44, 78, 3]⟩), mvZ 86 92, exZ 93 86 0, exZ 94 86 1, asZ 18 93, asZ 19 94]
def T_TopPresets_r21 : List SO := [mvZ 96 18, rZ 97 (.call ⟨(.value (.func (10 : Nat))), #[(tZ 96)], #[40]⟩), mvZ 95 97, exZ 98 95 0, exZ 99 95 1, exZ 100 95 2, asZ 20 98, asZ 21 99, asZ 22 100]
def T_TopPresets_r22 : List SO := [mvZ 101 17, bcZ 102 .neq 34 101 0 34, mvZ 103 102, gZ 103 false (mvZ 104 19), gZ 103 false (bcZ 105 .neq 34 104 0 34), rZ 106 (.pick (tZ 103) (.const (.bool true)) (tZ 105)), mvZ 107 106, gZ 107 false (mvZ 108 18), gZ 107 false (rZ 109 (.call ⟨(.builtin .len), #[(tZ 108)], #[40]⟩)), gZ 107 false (bcZ 110 .neq 3 109 130 3), rZ 111 (.pick (tZ 107) (.const (.bool true)) (tZ 110)), mvZ 112 111, gZ 112 false (mvZ 113 20), gZ 112 false (mvZ 114 21), gZ 112 false (boZ 115 .add 3 113 114 3), gZ 112 false (bcZ 116 .neq 3 115 130 3), rZ 117 (.pick (tZ 112) (.const (.bool true)) (tZ 116)), mvZ 118 117, gZ 118 false (mvZ 119 22), gZ 118 false (bcZ 120 .neq 3 119 0 3), rZ 121 (.pick (tZ 118) (.const (.bool true)) (tZ 120))]
def T_TopPresets_r23 : List SO := [rZ 8 (.assign (.const (.bool false)))]
def T_TopPresets_r24 : List SO := [mvZ 122 18, rZ 123 (.slice 40 (tZ 122) (some (ciZ 120)) none none), rZ 124 (.call ⟨(.builtin .len), #[(tZ 123)], #[40]⟩), rZ 125 (.move (ciZ 0))]
def T_TopPresets_r25 : List SO := [boZ 126 .lss 3 125 124 3]
def T_TopPresets_r26 : List SO := [iaZ 127 40 123 125, ldZ 128 49 127, rZ 24 (.alloc 49), stZ 49 24 128]
def T_TopPresets_r27 : List SO := [faZ 129 49 24 1, ldZ 130 3 129, bcZ 131 .neq 3 130 0 3]
def T_TopPresets_r28 : List SO := [rZ 8 (.assign (.const (.bool false)))]
def T_TopPresets_r29 : List SO := [bcZ 132 .add 3 125 1 3, mvZ 125 132]
def T_TopPresets_r30 : List SO := [rZ 8 (.assign (.const (.bool true)))]
def T_TopPresets_c : SF := ⟨133, (.seq (.reg T_TopPresets_r0)
  (.seq (.seq (.reg T_TopPresets_r1)
  (.cond (tZ 26) (.seq (.reg T_TopPresets_r2)
  .ret) .skip))
  (.seq (.reg T_TopPresets_r3)
  (.seq (.reg T_TopPresets_r4)
  (.seq (.reg T_TopPresets_r5)
  (.seq (.reg T_TopPresets_r6)
  (.seq (.seq (.reg T_TopPresets_r7)
  (.block 0 (.loop (.seq (.reg T_TopPresets_r8)
  (.seq (.cond (tZ 37) .skip (.exit 0))
  (.seq (.block 1 (.seq (.reg T_TopPresets_r9)
  (.seq (.seq (.reg T_TopPresets_r10)
  (.cond (tZ 45) (.seq (.reg T_TopPresets_r11)
  .ret) .skip))
  (.seq (.regd T_TopPresets_r12 T_TopPresets_a12)
  (.seq (.seq (.reg T_TopPresets_r13)
  (.cond (tZ 62) (.seq (.reg T_TopPresets_r14)
  .ret) .skip))
  (.regd T_TopPresets_r15 T_TopPresets_a15))))))
  (.reg T_TopPresets_r16)))))))
  (.seq (.seq (.reg T_TopPresets_r17)
  (.cond (tZ 77) (.seq (.reg T_TopPresets_r18)
  .ret) .skip))
  (.seq (.reg T_TopPresets_r19)
  (.seq (.reg T_TopPresets_r20)
  (.seq (.reg T_TopPresets_r21)
  (.seq (.seq (.reg T_TopPresets_r22)
  (.cond (tZ 121) (.seq (.reg T_TopPresets_r23)
  .ret) .skip))
  (.seq (.seq (.reg T_TopPresets_r24)
  (.block 2 (.loop (.seq (.reg T_TopPresets_r25)
  (.seq (.cond (tZ 126) .skip (.exit 2))
  (.seq (.block 3 (.seq (.reg T_TopPresets_r26)
  (.seq (.reg T_TopPresets_r27)
  (.cond (tZ 131) (.seq (.reg T_TopPresets_r28)
  .ret) .skip))))
  (.reg T_TopPresets_r29)))))))
  (.seq (.reg T_TopPresets_r30)
  .ret)))))))))))))), [.tmp 8]⟩
theorem T_TopPresets_s : slimF Try.prog 3 = some T_TopPresets_c := by kernel_rfl
abbrev T_TopPresets_f : Nat := 3

end Go.Proofs.Ytihminfnphichaa
