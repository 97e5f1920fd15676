/- Printed by program (gen.lean): code in few words; the kernel checks it against the translation. -/
import Derived.Test.YtbaepacihkgalaaX0
namespace Go.Proofs.Ytbaepacihkgalaa
open Go Go.Lite
set_option linter.unusedVariables false

/-- printworks/printworkskeep2.ControlSettles -/
def K2_ControlSettles_r0 : List SO := [rZ 8 (.assign (.const (.bool false)))]
def K2_ControlSettles_r1 : List SO := [rZ 23 (.call ⟨(.value (.func (21 : Nat))), #[], #[]⟩), rZ 24 (.unOp .not 4 (tZ 23))]
def K2_ControlSettles_r2 : List SO := [rZ 8 (.assign (.const (.bool false)))]
def K2_ControlSettles_r3 : List SO := [mvZ 25 0, rZ 26 (.call ⟨(.builtin .len), #[(tZ 25)], #[22]⟩), bcZ 27 .rem 3 26 3 3, rZ 28 (.binOp .add 3 (ciZ 1) (tZ 27) 3), asZ 9 28]
def K2_ControlSettles_r4 : List SO := [rZ 29 (.build 25 #[(0, (ciZ 2)), (2, (ciZ 100)), (3, (ciZ 80))]), rZ 10 (.alloc 25), stZ 25 10 29]
def K2_ControlSettles_r5 : List SO := [rZ 11 (.assign (.const (.slice none 0 0)))]
def K2_ControlSettles_r6 : List SO := [mvZ 30 9, rZ 31 (.move (ciZ 0))]
def K2_ControlSettles_r7 : List SO := [boZ 32 .lss 3 31 30 3]
def K2_ControlSettles_r8 : List SO := [mvZ 33 31, asZ 12 33]
def K2_ControlSettles_r9 : List SO := [rZ 13 (.assign (ciZ 0)), rZ 14 (.assign (ciZ 8))]
def K2_ControlSettles_r10 : List SO := [mvZ 34 12, mvZ 35 0, rZ 36 (.call ⟨(.builtin .len), #[(tZ 35)], #[22]⟩), boZ 37 .lss 3 34 36 3]
def K2_ControlSettles_r11 : List SO := [mvZ 38 0, mvZ 39 12, iaZ 40 22 38 39, ldZ 41 3 40, rZ 42 (.call ⟨(.value (.func (11 : Nat))), #[(tZ 41), (ciZ 4001)], #[3, 3]⟩), asZ 13 42]
def K2_ControlSettles_r12 : List SO := [mvZ 43 12, mvZ 44 2, rZ 45 (.call ⟨(.builtin .len), #[(tZ 44)], #[22]⟩), boZ 46 .lss 3 43 45 3]
def K2_ControlSettles_r13 : List SO := [mvZ 47 2, mvZ 48 12, iaZ 49 22 47 48, ldZ 50 3 49, rZ 51 (.call ⟨(.value (.func (11 : Nat))), #[(tZ 50), (ciZ 9)], #[3, 3]⟩), rZ 52 (.binOp .add 3 (ciZ 4) (tZ 51) 3), asZ 14 52]
def K2_ControlSettles_r14 : List SO := [rZ 15 (.assign (.const (.slice none 0 0)))]
def K2_ControlSettles_r15 : List SO := [rZ 53 (.move (ciZ 0))]
def K2_ControlSettles_r16 : List SO := [bcZ 54 .lss 3 53 2 3]
def K2_ControlSettles_r17 : List SO := [mvZ 55 53, asZ 16 55]
def K2_ControlSettles_r18 : List SO := [rZ 17 (.assign (ciZ 0))]
def K2_ControlSettles_r19 : List SO := [mvZ 56 12, mvZ 57 16, boZ 58 .add 3 56 57 3, mvZ 59 1, rZ 60 (.call ⟨(.builtin .len), #[(tZ 59)], #[22]⟩), boZ 61 .lss 3 58 60 3]
def K2_ControlSettles_r20 : List SO := [mvZ 62 1, mvZ 63 12, mvZ 64 16, boZ 65 .add 3 63 64 3, iaZ 66 22 62 65, ldZ 67 3 66, rZ 68 (.call ⟨(.value (.func (11 : Nat))), #[(tZ 67), (ciZ 9)], #[3, 3]⟩), asZ 17 68]
def K2_ControlSettles_r21 : List SO := [mvZ 69 15, mvZ 70 17, rZ 71 (.buildSlice 22 1 #[(0, (tZ 70))]), rZ 72 (.call ⟨(.builtin .append), #[(tZ 69), (tZ 71)], #[22, 22]⟩), asZ 15 72]
def K2_ControlSettles_r22 : List SO := [bcZ 73 .add 3 53 1 3, mvZ 53 73]
def K2_ControlSettles_r23 : List SO := [faZ 74 25 10 4, ldZ 75 22 74, mvZ 76 13, rZ 77 (.buildSlice 22 1 #[(0, (tZ 76))]), rZ 78 (.call ⟨(.builtin .append), #[(tZ 75), (tZ 77)], #[22, 22]⟩), faZ 79 25 10 5, ldZ 80 23 79, rZ 81 (.buildSlice 22 2 #[(0, (ciZ 500)), (1, (ciZ 0))]), rZ 82 (.buildSlice 23 1 #[(0, (tZ 81))]), rZ 83 (.call ⟨(.builtin .append), #[(tZ 80), (tZ 82)], #[23, 23]⟩), faZ 84 25 10 6, ldZ 85 23 84, mvZ 86 15, rZ 87 (.buildSlice 23 1 #[(0, (tZ 86))]), rZ 88 (.call ⟨(.builtin .append), #[(tZ 85), (tZ 87)], #[23, 23]⟩), faZ 89 25 10 4, stZ 22 89 78, faZ 90 25 10 5, stZ 23 90 83, faZ 91 25 10 6, stZ 23 91 88]
def K2_ControlSettles_a23 : List (List Nat) := [[], [0], [], [2], [1, 3], [], [5], [], [7], [6, 8, 4], [], [10], [], [12], [11, 13, 9], [0, 1, 2, 3, 4, 5, 6, 10, 11], [15, 4, 14, 0, 1, 2, 3, 4, 5, 6, 10, 11], [0, 1, 2, 3, 4, 5, 6, 7, 8, 9, 10, 11, 15, 16], [17, 9, 16, 0, 1, 2, 3, 4, 5, 6, 7, 8, 9, 10, 11, 15, 16], [0, 1, 2, 3, 4, 5, 6, 7, 8, 9, 10, 11, 12, 13, 14, 15, 16, 17, 18], [19, 14, 18, 0, 1, 2, 3, 4, 5, 6, 7, 8, 9, 10, 11, 12, 13, 14, 15, 16, 17, 18]]
def K2_ControlSettles_r24 : List SO := [mvZ 92 11, mvZ 93 12, mvZ 94 14, rZ 95 (.build 49 #[(0, (ciZ 1)), (1, (ciZ 2)), (2, (tZ 93)), (4, (tZ 94))]), rZ 96 (.buildSlice 26 1 #[(0, (tZ 95))]), rZ 97 (.call ⟨(.builtin .append), #[(tZ 92), (tZ 96)], #[26, 26]⟩), asZ 11 97]
def K2_ControlSettles_r25 : List SO := [bcZ 98 .add 3 31 1 3, mvZ 31 98]
def K2_ControlSettles_r26 : List SO := [mvZ 99 3, rZ 100 (.call ⟨(.value (.func (11 : Nat))), #[(tZ 99), (ciZ 40)], #[3, 3]⟩), rZ 101 (.binOp .add 3 (ciZ 64) (tZ 100) 3), rZ 102 (.build 54 #[(0, (tZ 101)), (1, (ciZ 10))]), rZ 18 (.alloc 54), stZ 54 18 102]
def K2_ControlSettles_r27 : List SO := [ldZ 104 25 10, ldZ 105 54 18, mvZ 106 11, faZ 107 54 18 0, ldZ 108 3 107, rZ 109 (.binOp .mul 3 (ciZ 13) (tZ 108) 3), bcZ 110 .add 3 109 100 3, rZ 111 (.call ⟨(.value (.func (22 : Nat))), #[(tZ 104), (tZ 105), (tZ 106), (tZ 110)], #[25, 54, 26, 3]⟩), mvZ 103 111, exZ 112 103 0, exZ 113 103 1, asZ 19 112, asZ 20 113]
def K2_ControlSettles_r28 : List SO := [mvZ 114 20, bcZ 115 .neq 30 114 0 30, mvZ 116 115, gZ 116 false (mvZ 117 19), gZ 116 false (rZ 118 (.call ⟨(.builtin .len), #[(tZ 117)], #[29]⟩)), gZ 116 false (faZ 119 54 18 0), gZ 116 false (ldZ 120 3 119), gZ 116 false (rZ 121 (.binOp .mul 3 (ciZ 13) (tZ 120) 3)), gZ 116 false (bcZ 122 .add 3 121 100 3), gZ 116 false (boZ 123 .neq 3 118 122 3), rZ 124 (.pick (tZ 116) (.const (.bool true)) (tZ 123))]
def K2_ControlSettles_r29 : List SO := [rZ 8 (.assign (.const (.bool false)))]
def K2_ControlSettles_r30 : List SO := [mvZ 125 19, faZ 126 54 18 0, ldZ 127 3 126, rZ 128 (.binOp .mul 3 (ciZ 12) (tZ 127) 3), bcZ 129 .add 3 128 63 3, rZ 130 (.slice 29 (tZ 125) (some (tZ 129)) none none), rZ 131 (.call ⟨(.builtin .len), #[(tZ 130)], #[29]⟩), rZ 132 (.move (ciZ 0))]
def K2_ControlSettles_r31 : List SO := [boZ 133 .lss 3 132 131 3]
def K2_ControlSettles_r32 : List SO := [iaZ 134 29 130 132, ldZ 135 37 134, rZ 22 (.alloc 37), stZ 37 22 135]
def K2_ControlSettles_r33 : List SO := [faZ 136 37 22 1, ldZ 137 3 136, bcZ 138 .neq 3 137 0 3]
def K2_ControlSettles_r34 : List SO := [rZ 8 (.assign (.const (.bool false)))]
def K2_ControlSettles_r35 : List SO := [bcZ 139 .add 3 132 1 3, mvZ 132 139]
def K2_ControlSettles_r36 : List SO := [rZ 8 (.assign (.const (.bool true)))]
def K2_ControlSettles_c : SF := ⟨140, (.seq (.reg K2_ControlSettles_r0)
  (.seq (.seq (.reg K2_ControlSettles_r1)
  (.cond (tZ 24) (.seq (.reg K2_ControlSettles_r2)
  .ret) .skip))
  (.seq (.reg K2_ControlSettles_r3)
  (.seq (.reg K2_ControlSettles_r4)
  (.seq (.reg K2_ControlSettles_r5)
  (.seq (.seq (.reg K2_ControlSettles_r6)
  (.block 0 (.loop (.seq (.reg K2_ControlSettles_r7)
  (.seq (.cond (tZ 32) .skip (.exit 0))
  (.seq (.block 1 (.seq (.reg K2_ControlSettles_r8)
  (.seq (.reg K2_ControlSettles_r9)
  (.seq (.seq (.reg K2_ControlSettles_r10)
  (.cond (tZ 37) (.reg K2_ControlSettles_r11) .skip))
  (.seq (.seq (.reg K2_ControlSettles_r12)
  (.cond (tZ 46) (.reg K2_ControlSettles_r13) .skip))
  (.seq (.reg K2_ControlSettles_r14)
  (.seq (.seq (.reg K2_ControlSettles_r15)
  (.block 2 (.loop (.seq (.reg K2_ControlSettles_r16)
  (.seq (.cond (tZ 54) .skip (.exit 2))
  (.seq (.block 3 (.seq (.reg K2_ControlSettles_r17)
  (.seq (.reg K2_ControlSettles_r18)
  (.seq (.seq (.reg K2_ControlSettles_r19)
  (.cond (tZ 61) (.reg K2_ControlSettles_r20) .skip))
  (.reg K2_ControlSettles_r21)))))
  (.reg K2_ControlSettles_r22)))))))
  (.seq (.regd K2_ControlSettles_r23 K2_ControlSettles_a23)
  (.reg K2_ControlSettles_r24)))))))))
  (.reg K2_ControlSettles_r25)))))))
  (.seq (.reg K2_ControlSettles_r26)
  (.seq (.reg K2_ControlSettles_r27)
  (.seq (.seq (.reg K2_ControlSettles_r28)
  (.cond (tZ 124) (.seq (.reg K2_ControlSettles_r29)
  .ret) .skip))
  (.seq (.seq (.reg K2_ControlSettles_r30)
  (.block 4 (.loop (.seq (.reg K2_ControlSettles_r31)
  (.seq (.cond (tZ 133) .skip (.exit 4))
  (.seq (.block 5 (.seq (.reg K2_ControlSettles_r32)
  (.seq (.reg K2_ControlSettles_r33)
  (.cond (tZ 138) (.seq (.reg K2_ControlSettles_r34)
  .ret) .skip))))
  (.reg K2_ControlSettles_r35)))))))
  (.seq (.reg K2_ControlSettles_r36)
  .ret))))))))))), [.tmp 8]⟩
theorem K2_ControlSettles_s : slimF Try.prog 6 = some K2_ControlSettles_c := by kernel_rfl
abbrev K2_ControlSettles_f : Nat := 6

end Go.Proofs.Ytbaepacihkgalaa
