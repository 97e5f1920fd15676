/- Printed by program (gen.lean): code in few words; the kernel checks it against the translation. -/
import Derived.Test.YtbaepacihkgalaaX0
namespace Go.Proofs.Ytbaepacihkgalaa
open Go Go.Lite
set_option linter.unusedVariables false

/-- printworks/printworkskeep2.PressSteady -/
def K2_PressSteady_r0 : List SO := [rZ 3 (.box 25 (tZ 0)), rZ 6 (.assign (.const (.bool false)))]
def K2_PressSteady_r1 : List SO := [rZ 11 (.call ⟨(.value (.func (10 : Nat))), #[], #[]⟩), rZ 12 (.unOp .not 4 (tZ 11))]
def K2_PressSteady_r2 : List SO := [rZ 6 (.assign (.const (.bool false)))]
def K2_PressSteady_r3 : List SO := [ldZ 14 25 3, rZ 15 (.call ⟨(.value (.func (12 : Nat))), #[(tZ 14), (.const (.slice none 0 0)), (ciZ 203)], #[25, 26, 3]⟩), mvZ 13 15, exZ 16 13 0, exZ 17 13 1, asZ 7 16, asZ 8 17]
def K2_PressSteady_r4 : List SO := [mvZ 18 8, bcZ 19 .neq 30 18 0 30]
def K2_PressSteady_r5 : List SO := [mvZ 20 7, rZ 21 (.call ⟨(.builtin .len), #[(tZ 20)], #[29]⟩), bcZ 22 .eql 3 21 0 3, asZ 6 22]
def K2_PressSteady_r6 : List SO := [mvZ 23 7, rZ 24 (.call ⟨(.builtin .len), #[(tZ 23)], #[29]⟩), bcZ 25 .neq 3 24 203 3, mvZ 26 25, gZ 26 false (mvZ 27 7), gZ 26 false (rZ 28 (.indexAddr 29 (tZ 27) (ciZ 201))), gZ 26 false (faZ 29 37 28 3), gZ 26 false (ldZ 30 23 29), gZ 26 false (rZ 31 (.call ⟨(.builtin .len), #[(tZ 30)], #[23]⟩)), gZ 26 false (faZ 32 25 3 4), gZ 26 false (ldZ 33 22 32), gZ 26 false (rZ 34 (.call ⟨(.builtin .len), #[(tZ 33)], #[22]⟩)), gZ 26 false (boZ 35 .neq 3 31 34 3), rZ 36 (.pick (tZ 26) (.const (.bool true)) (tZ 35)), mvZ 37 36, gZ 37 false (mvZ 38 7), gZ 37 false (rZ 39 (.indexAddr 29 (tZ 38) (ciZ 202))), gZ 37 false (faZ 40 37 39 3), gZ 37 false (ldZ 41 23 40), gZ 37 false (rZ 42 (.call ⟨(.builtin .len), #[(tZ 41)], #[23]⟩)), gZ 37 false (faZ 43 25 3 4), gZ 37 false (ldZ 44 22 43), gZ 37 false (rZ 45 (.call ⟨(.builtin .len), #[(tZ 44)], #[22]⟩)), gZ 37 false (boZ 46 .neq 3 42 45 3), rZ 47 (.pick (tZ 37) (.const (.bool true)) (tZ 46))]
def K2_PressSteady_a6 : List (List Nat) := [[], [0], [1], [2], [3], [4, 3], [5, 3], [6, 3], [7, 3], [3], [9, 3], [10, 3], [8, 11, 3], [3, 12], [13, 3], [14], [15, 14], [16, 14], [17, 14], [18, 14], [14], [20, 14], [21, 14], [19, 22, 14], [14, 23]]
def K2_PressSteady_r7 : List SO := [rZ 6 (.assign (.const (.bool false)))]
def K2_PressSteady_r8 : List SO := [mvZ 48 1, faZ 49 25 3 4, ldZ 50 22 49, rZ 51 (.call ⟨(.builtin .len), #[(tZ 50)], #[22]⟩), rZ 52 (.call ⟨(.value (.func (11 : Nat))), #[(tZ 48), (tZ 51)], #[3, 3]⟩), mvZ 53 2, faZ 54 25 3 0, ldZ 55 3 54, rZ 56 (.call ⟨(.value (.func (11 : Nat))), #[(tZ 53), (tZ 55)], #[3, 3]⟩), asZ 1 52, asZ 2 56]
def K2_PressSteady_a8 : List (List Nat) := [[], [], [1], [2], [0, 3], [], [], [6], [5, 7, 4], [4, 8, 0, 1, 2, 3, 4], [8, 9, 0, 1, 2, 3, 4, 5, 6, 7, 8, 9]]
def K2_PressSteady_r9 : List SO := [mvZ 57 7, rZ 58 (.indexAddr 29 (tZ 57) (ciZ 201)), faZ 59 37 58 3, ldZ 60 23 59, mvZ 61 1, iaZ 62 23 60 61, ldZ 63 22 62, rZ 64 (.call ⟨(.builtin .len), #[(tZ 63)], #[22]⟩), faZ 65 25 3 0, ldZ 66 3 65, boZ 67 .neq 3 64 66 3, mvZ 68 67, gZ 68 false (mvZ 69 7), gZ 68 false (rZ 70 (.indexAddr 29 (tZ 69) (ciZ 202))), gZ 68 false (faZ 71 37 70 3), gZ 68 false (ldZ 72 23 71), gZ 68 false (mvZ 73 1), gZ 68 false (iaZ 74 23 72 73), gZ 68 false (ldZ 75 22 74), gZ 68 false (rZ 76 (.call ⟨(.builtin .len), #[(tZ 75)], #[22]⟩)), gZ 68 false (faZ 77 25 3 0), gZ 68 false (ldZ 78 3 77), gZ 68 false (boZ 79 .neq 3 76 78 3), rZ 80 (.pick (tZ 68) (.const (.bool true)) (tZ 79))]
def K2_PressSteady_a9 : List (List Nat) := [[], [0], [1], [2], [], [3, 4], [5], [6], [], [8], [7, 9], [10], [11], [12, 11], [13, 11], [14, 11], [11], [15, 16, 11], [17, 11], [18, 11], [11], [20, 11], [19, 21, 11], [11, 22]]
def K2_PressSteady_r10 : List SO := [rZ 6 (.assign (.const (.bool false)))]
def K2_PressSteady_r11 : List SO := [mvZ 81 7, rZ 82 (.indexAddr 29 (tZ 81) (ciZ 202)), faZ 83 37 82 3, ldZ 84 23 83, mvZ 85 1, iaZ 86 23 84 85, ldZ 87 22 86, mvZ 88 2, iaZ 89 22 87 88, ldZ 90 3 89, asZ 9 90]
def K2_PressSteady_r12 : List SO := [faZ 91 25 3 5, ldZ 92 23 91, mvZ 93 1, iaZ 94 23 92 93, ldZ 95 22 94, mvZ 96 2, iaZ 97 22 95 96, ldZ 98 3 97, rZ 99 (.binOp .mul 3 (ciZ 16) (tZ 98) 3), mvZ 100 9, faZ 101 25 3 6, ldZ 102 23 101, mvZ 103 1, iaZ 104 23 102 103, ldZ 105 22 104, mvZ 106 2, iaZ 107 22 105 106, ldZ 108 3 107, rZ 109 (.binOp .add 3 (ciZ 8) (tZ 108) 3), boZ 110 .mul 3 100 109 3, rZ 111 (.call ⟨(.value (.func (15 : Nat))), #[(tZ 110), (ciZ 8)], #[3, 3]⟩), boZ 112 .sub 3 99 111 3, asZ 10 112]
def K2_PressSteady_a12 : List (List Nat) := [[], [0], [], [1, 2], [3], [], [4, 5], [6], [7], [], [], [10], [], [11, 12], [13], [], [14, 15], [16], [17], [9, 18], [19], [8, 20], [21, 20, 0, 1, 2, 3, 4, 5, 6, 7, 8, 9, 10, 11, 12, 13, 14, 15, 16, 17, 18, 19, 20, 21]]
def K2_PressSteady_r13 : List SO := [mvZ 113 9, mvZ 114 7, rZ 115 (.indexAddr 29 (tZ 114) (ciZ 201)), faZ 116 37 115 3, ldZ 117 23 116, mvZ 118 1, iaZ 119 23 117 118, ldZ 120 22 119, mvZ 121 2, iaZ 122 22 120 121, ldZ 123 3 122, boZ 124 .eql 3 113 123 3, mvZ 125 124, gZ 125 true (mvZ 126 10), gZ 125 true (bcZ 127 .geq 3 126 0 3), rZ 128 (.pick (tZ 125) (tZ 127) (.const (.bool false))), mvZ 129 128, gZ 129 true (mvZ 130 10), gZ 129 true (bcZ 131 .lss 3 130 8 3), rZ 132 (.pick (tZ 129) (tZ 131) (.const (.bool false))), asZ 6 132]
def K2_PressSteady_c : SF := ⟨133, (.seq (.reg K2_PressSteady_r0)
  (.seq (.seq (.reg K2_PressSteady_r1)
  (.cond (tZ 12) (.seq (.reg K2_PressSteady_r2)
  .ret) .skip))
  (.seq (.reg K2_PressSteady_r3)
  (.seq (.seq (.reg K2_PressSteady_r4)
  (.cond (tZ 19) (.seq (.reg K2_PressSteady_r5)
  .ret) .skip))
  (.seq (.seq (.regd K2_PressSteady_r6 K2_PressSteady_a6)
  (.cond (tZ 47) (.seq (.reg K2_PressSteady_r7)
  .ret) .skip))
  (.seq (.regd K2_PressSteady_r8 K2_PressSteady_a8)
  (.seq (.seq (.regd K2_PressSteady_r9 K2_PressSteady_a9)
  (.cond (tZ 80) (.seq (.reg K2_PressSteady_r10)
  .ret) .skip))
  (.seq (.reg K2_PressSteady_r11)
  (.seq (.regd K2_PressSteady_r12 K2_PressSteady_a12)
  (.seq (.reg K2_PressSteady_r13)
  .ret)))))))))), [.tmp 6]⟩
theorem K2_PressSteady_s : slimF Try.prog 4 = some K2_PressSteady_c := by kernel_rfl
abbrev K2_PressSteady_f : Nat := 4

end Go.Proofs.Ytbaepacihkgalaa
