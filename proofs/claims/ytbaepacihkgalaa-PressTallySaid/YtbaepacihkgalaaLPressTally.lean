/- Printed by program (gen.lean): code in few words; the kernel checks it against the translation. -/
import Derived.Test.YtbaepacihkgalaaX0
namespace Go.Proofs.Ytbaepacihkgalaa
open Go Go.Lite
set_option linter.unusedVariables false

/-- printworks/printworkskeep2.PressTally -/
def K2_PressTally_r0 : List SO := [rZ 3 (.box 25 (tZ 0)), rZ 6 (.assign (.const (.bool false)))]
def K2_PressTally_r1 : List SO := [rZ 18 (.call ⟨(.value (.func (10 : Nat))), #[], #[]⟩), rZ 19 (.unOp .not 4 (tZ 18))]
def K2_PressTally_r2 : List SO := [rZ 6 (.assign (.const (.bool false)))]
def K2_PressTally_r3 : List SO := [mvZ 20 2, rZ 21 (.call ⟨(.value (.func (11 : Nat))), #[(tZ 20), (ciZ 200)], #[3, 3]⟩), asZ 2 21]
def K2_PressTally_r4 : List SO := [ldZ 23 25 3, mvZ 24 1, mvZ 25 2, rZ 26 (.call ⟨(.value (.func (12 : Nat))), #[(tZ 23), (tZ 24), (tZ 25)], #[25, 26, 3]⟩), mvZ 22 26, exZ 27 22 0, exZ 28 22 1, asZ 7 27, asZ 8 28]
def K2_PressTally_r5 : List SO := [mvZ 29 8, bcZ 30 .neq 30 29 0 30]
def K2_PressTally_r6 : List SO := [mvZ 31 7, rZ 32 (.call ⟨(.builtin .len), #[(tZ 31)], #[29]⟩), bcZ 33 .eql 3 32 0 3, asZ 6 33]
def K2_PressTally_r7 : List SO := [mvZ 35 7, rZ 36 (.call ⟨(.value (.func (13 : Nat))), #[(tZ 35)], #[29]⟩), mvZ 34 36, exZ 37 34 0, exZ 38 34 1, exZ 39 34 2, asZ 9 37, asZ 10 38, asZ 11 39]
def K2_PressTally_r8 : List SO := [mvZ 40 7, rZ 41 (.call ⟨(.builtin .len), #[(tZ 40)], #[29]⟩), mvZ 42 2, boZ 43 .neq 3 41 42 3, mvZ 44 43, gZ 44 false (mvZ 45 9), gZ 44 false (mvZ 46 10), gZ 44 false (boZ 47 .add 3 45 46 3), gZ 44 false (mvZ 48 11), gZ 44 false (boZ 49 .add 3 47 48 3), gZ 44 false (mvZ 50 2), gZ 44 false (boZ 51 .neq 3 49 50 3), rZ 52 (.pick (tZ 44) (.const (.bool true)) (tZ 51)), mvZ 53 52, gZ 53 false (mvZ 54 9), gZ 53 false (bcZ 55 .lss 3 54 0 3), rZ 56 (.pick (tZ 53) (.const (.bool true)) (tZ 55)), mvZ 57 56, gZ 57 false (mvZ 58 10), gZ 57 false (bcZ 59 .lss 3 58 0 3), rZ 60 (.pick (tZ 57) (.const (.bool true)) (tZ 59)), mvZ 61 60, gZ 61 false (mvZ 62 11), gZ 61 false (bcZ 63 .lss 3 62 0 3), rZ 64 (.pick (tZ 61) (.const (.bool true)) (tZ 63))]
def K2_PressTally_r9 : List SO := [rZ 6 (.assign (.const (.bool false)))]
def K2_PressTally_r10 : List SO := [mvZ 65 7, rZ 66 (.call ⟨(.builtin .len), #[(tZ 65)], #[29]⟩), rZ 67 (.move (ciZ 0))]
def K2_PressTally_r11 : List SO := [boZ 68 .lss 3 67 66 3]
def K2_PressTally_r12 : List SO := [mvZ 69 67, iaZ 70 29 65 67, ldZ 71 37 70, rZ 13 (.alloc 37), asZ 12 69, stZ 37 13 71]
def K2_PressTally_r13 : List SO := [faZ 72 37 13 0, ldZ 73 3 72, mvZ 74 12, bcZ 75 .add 3 74 1 3, boZ 76 .neq 3 73 75 3, mvZ 77 76, gZ 77 false (faZ 78 37 13 4), gZ 77 false (ldZ 79 3 78), gZ 77 false (mvZ 80 12), gZ 77 false (bcZ 81 .add 3 80 51 3), gZ 77 false (boZ 82 .lss 3 79 81 3), rZ 83 (.pick (tZ 77) (.const (.bool true)) (tZ 82)), mvZ 84 83, gZ 84 false (faZ 85 37 13 2), gZ 84 false (ldZ 86 35 85), gZ 84 false (rZ 87 (.call ⟨(.builtin .len), #[(tZ 86)], #[35]⟩)), gZ 84 false (faZ 88 25 3 4), gZ 84 false (ldZ 89 22 88), gZ 84 false (rZ 90 (.call ⟨(.builtin .len), #[(tZ 89)], #[22]⟩)), gZ 84 false (boZ 91 .neq 3 87 90 3), rZ 92 (.pick (tZ 84) (.const (.bool true)) (tZ 91)), mvZ 93 92, gZ 93 false (faZ 94 37 13 3), gZ 93 false (ldZ 95 23 94), gZ 93 false (rZ 96 (.call ⟨(.builtin .len), #[(tZ 95)], #[23]⟩)), gZ 93 false (faZ 97 25 3 4), gZ 93 false (ldZ 98 22 97), gZ 93 false (rZ 99 (.call ⟨(.builtin .len), #[(tZ 98)], #[22]⟩)), gZ 93 false (boZ 100 .neq 3 96 99 3), rZ 101 (.pick (tZ 93) (.const (.bool true)) (tZ 100))]
def K2_PressTally_r14 : List SO := [rZ 6 (.assign (.const (.bool false)))]
def K2_PressTally_r15 : List SO := [faZ 102 37 13 1, ldZ 103 3 102]
def K2_PressTally_r16 : List SO := [bcZ 105 .eql 3 103 0 3, asZ 104 105]
def K2_PressTally_r17 : List SO := [mvZ 106 9, bcZ 107 .sub 3 106 1 3, asZ 9 107]
def K2_PressTally_r18 : List SO := [bcZ 109 .eql 3 103 1 3, asZ 108 109]
def K2_PressTally_r19 : List SO := [mvZ 110 10, bcZ 111 .sub 3 110 1 3, asZ 10 111]
def K2_PressTally_r20 : List SO := [bcZ 113 .eql 3 103 2 3, asZ 112 113]
def K2_PressTally_r21 : List SO := [mvZ 114 11, bcZ 115 .sub 3 114 1 3, asZ 11 115]
def K2_PressTally_r22 : List SO := [faZ 116 37 13 3, ldZ 117 23 116, rZ 118 (.call ⟨(.builtin .len), #[(tZ 117)], #[23]⟩), rZ 119 (.move (ciZ 0))]
def K2_PressTally_r23 : List SO := [boZ 120 .lss 3 119 118 3]
def K2_PressTally_r24 : List SO := [mvZ 121 119, asZ 14 121]
def K2_PressTally_r25 : List SO := [faZ 122 37 13 3, ldZ 123 23 122, mvZ 124 14, iaZ 125 23 123 124, ldZ 126 22 125, rZ 127 (.call ⟨(.builtin .len), #[(tZ 126)], #[22]⟩), rZ 128 (.move (ciZ 0))]
def K2_PressTally_r26 : List SO := [boZ 129 .lss 3 128 127 3]
def K2_PressTally_r27 : List SO := [iaZ 130 22 126 128, ldZ 131 3 130, asZ 16 131]
def K2_PressTally_r28 : List SO := [mvZ 132 16, bcZ 133 .lss 3 132 0 3, mvZ 134 133, gZ 134 false (mvZ 135 16), gZ 134 false (bcZ 136 .gtr 3 135 24000 3), rZ 137 (.pick (tZ 134) (.const (.bool true)) (tZ 136)), mvZ 138 137, gZ 138 false (faZ 139 37 13 1), gZ 138 false (ldZ 140 3 139), gZ 138 false (bcZ 141 .eql 3 140 0 3), gZ 138 false (mvZ 142 141), gZ 142 true (mvZ 143 16), gZ 142 true (faZ 144 25 3 4), gZ 142 true (ldZ 145 22 144), gZ 142 true (mvZ 146 14), gZ 142 true (iaZ 147 22 145 146), gZ 142 true (ldZ 148 3 147), gZ 142 true (boZ 149 .sub 3 143 148 3), gZ 142 true (faZ 150 25 3 3), gZ 142 true (ldZ 151 3 150), gZ 142 true (rZ 152 (.unOp .neg 3 (tZ 151))), gZ 142 true (faZ 153 25 3 3), gZ 142 true (ldZ 154 3 153), gZ 142 true (rZ 155 (.call ⟨(.value (.func (14 : Nat))), #[(tZ 149), (tZ 152), (tZ 154)], #[3, 3, 3]⟩)), gZ 142 true (rZ 156 (.unOp .not 4 (tZ 155))), gZ 138 false (rZ 157 (.pick (tZ 142) (tZ 156) (.const (.bool false)))), rZ 158 (.pick (tZ 138) (.const (.bool true)) (tZ 157))]
def K2_PressTally_a28 : List (List Nat) := [[], [0], [1], [2], [3, 2], [2, 4], [5, 2], [6], [7, 6], [8, 6], [9, 6, 6], [10], [10], [12, 10], [10], [13, 14, 10], [15, 10], [11, 16, 10], [10], [18, 10], [19, 10], [10], [21, 10], [17, 20, 22, 10, 10], [23, 10], [10, 24, 6], [6, 25]]
def K2_PressTally_r29 : List SO := [rZ 6 (.assign (.const (.bool false)))]
def K2_PressTally_r30 : List SO := [bcZ 159 .add 3 128 1 3, mvZ 128 159]
def K2_PressTally_r31 : List SO := [faZ 160 37 13 2, ldZ 161 35 160, mvZ 162 14, iaZ 163 35 161 162, ldZ 164 40 163, rZ 17 (.alloc 40), stZ 40 17 164]
def K2_PressTally_r32 : List SO := [faZ 165 37 13 1, ldZ 166 3 165, bcZ 167 .eql 3 166 0 3, mvZ 168 167, gZ 168 true (faZ 169 37 13 0), gZ 168 true (ldZ 170 3 169), gZ 168 true (faZ 171 25 3 1), gZ 168 true (ldZ 172 3 171), gZ 168 true (boZ 173 .leq 3 170 172 3), gZ 168 true (mvZ 174 173), gZ 174 false (faZ 175 40 17 0), gZ 174 false (ldZ 176 3 175), gZ 174 false (faZ 177 25 3 2), gZ 174 false (ldZ 178 3 177), gZ 174 false (rZ 179 (.unOp .neg 3 (tZ 178))), gZ 174 false (faZ 180 25 3 2), gZ 174 false (ldZ 181 3 180), gZ 174 false (rZ 182 (.call ⟨(.value (.func (14 : Nat))), #[(tZ 176), (tZ 179), (tZ 181)], #[3, 3, 3]⟩)), gZ 174 false (rZ 183 (.unOp .not 4 (tZ 182))), gZ 168 true (rZ 184 (.pick (tZ 174) (.const (.bool true)) (tZ 183))), gZ 168 true (mvZ 185 184), gZ 185 false (faZ 186 40 17 1), gZ 185 false (ldZ 187 3 186), gZ 185 false (faZ 188 25 3 2), gZ 185 false (ldZ 189 3 188), gZ 185 false (rZ 190 (.unOp .neg 3 (tZ 189))), gZ 185 false (faZ 191 25 3 2), gZ 185 false (ldZ 192 3 191), gZ 185 false (rZ 193 (.call ⟨(.value (.func (14 : Nat))), #[(tZ 187), (tZ 190), (tZ 192)], #[3, 3, 3]⟩)), gZ 185 false (rZ 194 (.unOp .not 4 (tZ 193))), gZ 168 true (rZ 195 (.pick (tZ 185) (.const (.bool true)) (tZ 194))), rZ 196 (.pick (tZ 168) (tZ 195) (.const (.bool false)))]
def K2_PressTally_r33 : List SO := [rZ 6 (.assign (.const (.bool false)))]
def K2_PressTally_r34 : List SO := [bcZ 197 .add 3 119 1 3, mvZ 119 197]
def K2_PressTally_r35 : List SO := [bcZ 198 .add 3 67 1 3, mvZ 67 198]
def K2_PressTally_r36 : List SO := [mvZ 199 9, bcZ 200 .eql 3 199 0 3, mvZ 201 200, gZ 201 true (mvZ 202 10), gZ 201 true (bcZ 203 .eql 3 202 0 3), rZ 204 (.pick (tZ 201) (tZ 203) (.const (.bool false))), mvZ 205 204, gZ 205 true (mvZ 206 11), gZ 205 true (bcZ 207 .eql 3 206 0 3), rZ 208 (.pick (tZ 205) (tZ 207) (.const (.bool false))), asZ 6 208]
def K2_PressTally_c : SF := ⟨209, (.seq (.reg K2_PressTally_r0)
  (.seq (.seq (.reg K2_PressTally_r1)
  (.cond (tZ 19) (.seq (.reg K2_PressTally_r2)
  .ret) .skip))
  (.seq (.reg K2_PressTally_r3)
  (.seq (.reg K2_PressTally_r4)
  (.seq (.seq (.reg K2_PressTally_r5)
  (.cond (tZ 30) (.seq (.reg K2_PressTally_r6)
  .ret) .skip))
  (.seq (.reg K2_PressTally_r7)
  (.seq (.seq (.reg K2_PressTally_r8)
  (.cond (tZ 64) (.seq (.reg K2_PressTally_r9)
  .ret) .skip))
  (.seq (.seq (.reg K2_PressTally_r10)
  (.block 0 (.loop (.seq (.reg K2_PressTally_r11)
  (.seq (.cond (tZ 68) .skip (.exit 0))
  (.seq (.block 1 (.seq (.reg K2_PressTally_r12)
  (.seq (.seq (.reg K2_PressTally_r13)
  (.cond (tZ 101) (.seq (.reg K2_PressTally_r14)
  .ret) .skip))
  (.seq (.seq (.reg K2_PressTally_r15)
  (.block 2 (.seq (.reg K2_PressTally_r16)
  (.cond (tZ 104) (.reg K2_PressTally_r17) (.seq (.reg K2_PressTally_r18)
  (.cond (tZ 108) (.reg K2_PressTally_r19) (.seq (.reg K2_PressTally_r20)
  (.cond (tZ 112) (.reg K2_PressTally_r21) .skip))))))))
  (.seq (.reg K2_PressTally_r22)
  (.block 3 (.loop (.seq (.reg K2_PressTally_r23)
  (.seq (.cond (tZ 120) .skip (.exit 3))
  (.seq (.block 4 (.seq (.reg K2_PressTally_r24)
  (.seq (.seq (.reg K2_PressTally_r25)
  (.block 5 (.loop (.seq (.reg K2_PressTally_r26)
  (.seq (.cond (tZ 129) .skip (.exit 5))
  (.seq (.block 6 (.seq (.reg K2_PressTally_r27)
  (.seq (.regd K2_PressTally_r28 K2_PressTally_a28)
  (.cond (tZ 158) (.seq (.reg K2_PressTally_r29)
  .ret) .skip))))
  (.reg K2_PressTally_r30)))))))
  (.seq (.reg K2_PressTally_r31)
  (.seq (.reg K2_PressTally_r32)
  (.cond (tZ 196) (.seq (.reg K2_PressTally_r33)
  .ret) .skip))))))
  (.reg K2_PressTally_r34)))))))))))
  (.reg K2_PressTally_r35)))))))
  (.seq (.reg K2_PressTally_r36)
  .ret))))))))), [.tmp 6]⟩
theorem K2_PressTally_s : slimF Try.prog 3 = some K2_PressTally_c := by kernel_rfl
abbrev K2_PressTally_f : Nat := 3

end Go.Proofs.Ytbaepacihkgalaa
