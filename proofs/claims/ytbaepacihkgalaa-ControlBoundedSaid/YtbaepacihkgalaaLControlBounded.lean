/- Printed by program (gen.lean): code in few words; the kernel checks it against the translation. -/
import Derived.Test.YtbaepacihkgalaaX0
namespace Go.Proofs.Ytbaepacihkgalaa
open Go Go.Lite
set_option linter.unusedVariables false

/-- printworks/printworkskeep2.ControlBounded -/
def K2_ControlBounded_r0 : List SO := [rZ 4 (.box 54 (tZ 0)), rZ 8 (.assign (.const (.bool false)))]
def K2_ControlBounded_r1 : List SO := [rZ 19 (.call ⟨(.value (.func (21 : Nat))), #[], #[]⟩), rZ 20 (.unOp .not 4 (tZ 19))]
def K2_ControlBounded_r2 : List SO := [rZ 8 (.assign (.const (.bool false)))]
def K2_ControlBounded_r3 : List SO := [mvZ 21 1, rZ 22 (.call ⟨(.value (.func (11 : Nat))), #[(tZ 21), (ciZ 17)], #[3, 3]⟩), mvZ 23 3, rZ 24 (.call ⟨(.value (.func (11 : Nat))), #[(tZ 23), (ciZ 300)], #[3, 3]⟩), asZ 1 22, asZ 3 24]
def K2_ControlBounded_r4 : List SO := [faZ 25 54 4 0, ldZ 26 3 25, rZ 27 (.call ⟨(.value (.func (11 : Nat))), #[(tZ 26), (ciZ 4000)], #[3, 3]⟩), rZ 28 (.binOp .add 3 (ciZ 1) (tZ 27) 3), faZ 29 54 4 0, stZ 3 29 28]
def K2_ControlBounded_r5 : List SO := [ldZ 31 54 4, mvZ 32 1, rZ 33 (.call ⟨(.value (.func (23 : Nat))), #[(tZ 31), (tZ 32)], #[54, 3]⟩), mvZ 30 33, exZ 34 30 0, exZ 35 30 1, asZ 9 34, asZ 10 35]
def K2_ControlBounded_r6 : List SO := [faZ 36 54 4 1, ldZ 37 3 36, bcZ 38 .lss 3 37 1 3, mvZ 39 38, gZ 39 false (faZ 40 54 4 1), gZ 39 false (ldZ 41 3 40), gZ 39 false (bcZ 42 .gtr 3 41 4000 3), rZ 43 (.pick (tZ 39) (.const (.bool true)) (tZ 42))]
def K2_ControlBounded_r7 : List SO := [mvZ 44 10, bcZ 45 .eql 30 44 3 30, mvZ 46 45, gZ 46 true (mvZ 47 9), gZ 46 true (bcZ 48 .eql 3 47 0 3), rZ 49 (.pick (tZ 46) (tZ 48) (.const (.bool false))), asZ 8 49]
def K2_ControlBounded_r8 : List SO := [mvZ 50 10, bcZ 51 .neq 30 50 0 30]
def K2_ControlBounded_r9 : List SO := [rZ 8 (.assign (.const (.bool false)))]
def K2_ControlBounded_r10 : List SO := [rZ 52 (.call ⟨(.value (.func (24 : Nat))), #[], #[]⟩), rZ 11 (.alloc 25), stZ 25 11 52]
def K2_ControlBounded_r11 : List SO := [rZ 12 (.assign (.const (.slice none 0 0)))]
def K2_ControlBounded_r12 : List SO := [mvZ 53 2, mvZ 54 2, rZ 55 (.call ⟨(.builtin .len), #[(tZ 54)], #[35]⟩), rZ 56 (.call ⟨(.builtin .min), #[(tZ 55), (ciZ 20)], #[3, 3]⟩), rZ 57 (.slice 35 (tZ 53) none (some (tZ 56)) none), rZ 58 (.call ⟨(.builtin .len), #[(tZ 57)], #[35]⟩), rZ 59 (.move (ciZ 0))]
def K2_ControlBounded_r13 : List SO := [boZ 60 .lss 3 59 58 3]
def K2_ControlBounded_r14 : List SO := [mvZ 61 59, iaZ 62 35 57 59, ldZ 63 40 62, rZ 14 (.alloc 40), asZ 13 61, stZ 40 14 63]
def K2_ControlBounded_r15 : List SO := [mvZ 64 12, mvZ 65 13, rZ 66 (.binOp .mul 3 (ciZ 7) (tZ 65) 3), rZ 67 (.binOp .add 3 (ciZ 1) (tZ 66) 3), faZ 68 40 14 0, ldZ 69 3 68, mvZ 70 1, rZ 71 (.binOp .mul 3 (ciZ 2) (tZ 70) 3), bcZ 72 .add 3 71 1 3, rZ 73 (.call ⟨(.value (.func (11 : Nat))), #[(tZ 69), (tZ 72)], #[3, 3]⟩), mvZ 74 1, boZ 75 .sub 3 73 74 3, faZ 76 40 14 1, ldZ 77 3 76, mvZ 78 1, rZ 79 (.binOp .mul 3 (ciZ 2) (tZ 78) 3), bcZ 80 .add 3 79 1 3, rZ 81 (.call ⟨(.value (.func (11 : Nat))), #[(tZ 77), (tZ 80)], #[3, 3]⟩), mvZ 82 1, boZ 83 .sub 3 81 82 3, rZ 84 (.build 49 #[(0, (tZ 67)), (1, (ciZ 0)), (4, (tZ 75)), (5, (tZ 83))]), rZ 85 (.buildSlice 26 1 #[(0, (tZ 84))]), rZ 86 (.call ⟨(.builtin .append), #[(tZ 64), (tZ 85)], #[26, 26]⟩), asZ 12 86]
def K2_ControlBounded_a15 : List (List Nat) := [[], [], [1], [2], [], [4], [], [6], [7], [5, 8], [], [9, 10], [], [12], [], [14], [15], [13, 16, 9], [], [17, 18], [3, 11, 19], [20], [0, 21, 17], [22, 22, 0, 1, 2, 3, 4, 5, 6, 7, 8, 9, 10, 11, 12, 13, 14, 15, 16, 17, 18, 19, 20, 21, 22]]
def K2_ControlBounded_r16 : List SO := [bcZ 87 .add 3 59 1 3, mvZ 59 87]
def K2_ControlBounded_r17 : List SO := [ldZ 89 25 11, ldZ 90 54 4, mvZ 91 12, mvZ 92 3, rZ 93 (.call ⟨(.value (.func (22 : Nat))), #[(tZ 89), (tZ 90), (tZ 91), (tZ 92)], #[25, 54, 26, 3]⟩), mvZ 88 93, exZ 94 88 0, exZ 95 88 1, asZ 15 94, asZ 16 95]
def K2_ControlBounded_r18 : List SO := [mvZ 96 16, bcZ 97 .neq 30 96 0 30, mvZ 98 97, gZ 98 false (mvZ 99 15), gZ 98 false (rZ 100 (.call ⟨(.builtin .len), #[(tZ 99)], #[29]⟩)), gZ 98 false (mvZ 101 3), gZ 98 false (boZ 102 .neq 3 100 101 3), rZ 103 (.pick (tZ 98) (.const (.bool true)) (tZ 102))]
def K2_ControlBounded_r19 : List SO := [rZ 8 (.assign (.const (.bool false)))]
def K2_ControlBounded_r20 : List SO := [mvZ 104 15, rZ 105 (.call ⟨(.builtin .len), #[(tZ 104)], #[29]⟩), rZ 106 (.move (ciZ 0))]
def K2_ControlBounded_r21 : List SO := [boZ 107 .lss 3 106 105 3]
def K2_ControlBounded_r22 : List SO := [iaZ 108 29 104 106, ldZ 109 37 108, rZ 18 (.alloc 37), stZ 37 18 109]
def K2_ControlBounded_r23 : List SO := [faZ 110 37 18 2, ldZ 111 35 110, rZ 112 (.call ⟨(.builtin .len), #[(tZ 111)], #[35]⟩), bcZ 113 .neq 3 112 1 3, mvZ 114 113, gZ 114 false (faZ 115 37 18 2), gZ 114 false (ldZ 116 35 115), gZ 114 false (rZ 117 (.indexAddr 35 (tZ 116) (ciZ 0))), gZ 114 false (faZ 118 40 117 0), gZ 114 false (ldZ 119 3 118), gZ 114 false (mvZ 120 9), gZ 114 false (rZ 121 (.unOp .neg 3 (tZ 120))), gZ 114 false (mvZ 122 9), gZ 114 false (rZ 123 (.call ⟨(.value (.func (14 : Nat))), #[(tZ 119), (tZ 121), (tZ 122)], #[3, 3, 3]⟩)), gZ 114 false (rZ 124 (.unOp .not 4 (tZ 123))), rZ 125 (.pick (tZ 114) (.const (.bool true)) (tZ 124)), mvZ 126 125, gZ 126 false (faZ 127 37 18 2), gZ 126 false (ldZ 128 35 127), gZ 126 false (rZ 129 (.indexAddr 35 (tZ 128) (ciZ 0))), gZ 126 false (faZ 130 40 129 1), gZ 126 false (ldZ 131 3 130), gZ 126 false (mvZ 132 9), gZ 126 false (rZ 133 (.unOp .neg 3 (tZ 132))), gZ 126 false (mvZ 134 9), gZ 126 false (rZ 135 (.call ⟨(.value (.func (14 : Nat))), #[(tZ 131), (tZ 133), (tZ 134)], #[3, 3, 3]⟩)), gZ 126 false (rZ 136 (.unOp .not 4 (tZ 135))), rZ 137 (.pick (tZ 126) (.const (.bool true)) (tZ 136))]
def K2_ControlBounded_r24 : List SO := [rZ 8 (.assign (.const (.bool false)))]
def K2_ControlBounded_r25 : List SO := [bcZ 138 .add 3 106 1 3, mvZ 106 138]
def K2_ControlBounded_r26 : List SO := [rZ 8 (.assign (.const (.bool true)))]
def K2_ControlBounded_c : SF := ⟨139, (.seq (.reg K2_ControlBounded_r0)
  (.seq (.seq (.reg K2_ControlBounded_r1)
  (.cond (tZ 20) (.seq (.reg K2_ControlBounded_r2)
  .ret) .skip))
  (.seq (.reg K2_ControlBounded_r3)
  (.seq (.reg K2_ControlBounded_r4)
  (.seq (.reg K2_ControlBounded_r5)
  (.seq (.seq (.reg K2_ControlBounded_r6)
  (.cond (tZ 43) (.seq (.reg K2_ControlBounded_r7)
  .ret) .skip))
  (.seq (.seq (.reg K2_ControlBounded_r8)
  (.cond (tZ 51) (.seq (.reg K2_ControlBounded_r9)
  .ret) .skip))
  (.seq (.reg K2_ControlBounded_r10)
  (.seq (.reg K2_ControlBounded_r11)
  (.seq (.seq (.reg K2_ControlBounded_r12)
  (.block 0 (.loop (.seq (.reg K2_ControlBounded_r13)
  (.seq (.cond (tZ 60) .skip (.exit 0))
  (.seq (.block 1 (.seq (.reg K2_ControlBounded_r14)
  (.regd K2_ControlBounded_r15 K2_ControlBounded_a15)))
  (.reg K2_ControlBounded_r16)))))))
  (.seq (.reg K2_ControlBounded_r17)
  (.seq (.seq (.reg K2_ControlBounded_r18)
  (.cond (tZ 103) (.seq (.reg K2_ControlBounded_r19)
  .ret) .skip))
  (.seq (.seq (.reg K2_ControlBounded_r20)
  (.block 2 (.loop (.seq (.reg K2_ControlBounded_r21)
  (.seq (.cond (tZ 107) .skip (.exit 2))
  (.seq (.block 3 (.seq (.reg K2_ControlBounded_r22)
  (.seq (.reg K2_ControlBounded_r23)
  (.cond (tZ 137) (.seq (.reg K2_ControlBounded_r24)
  .ret) .skip))))
  (.reg K2_ControlBounded_r25)))))))
  (.seq (.reg K2_ControlBounded_r26)
  .ret)))))))))))))), [.tmp 8]⟩
theorem K2_ControlBounded_s : slimF Try.prog 7 = some K2_ControlBounded_c := by kernel_rfl
abbrev K2_ControlBounded_f : Nat := 7

end Go.Proofs.Ytbaepacihkgalaa
