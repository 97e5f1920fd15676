/- Printed by program (gen.lean): code in few words; the kernel checks it against the translation. -/
import Derived.Test.YtbaepacihkgalaaX0
namespace Go.Proofs.Ytbaepacihkgalaa
open Go Go.Lite
set_option linter.unusedVariables false

/-- printworks/printworkskeep2.PressFeeds -/
def K2_PressFeeds_r0 : List SO := [rZ 3 (.box 25 (tZ 0)), rZ 6 (.assign (.const (.bool false)))]
def K2_PressFeeds_r1 : List SO := [rZ 17 (.call ⟨(.value (.func (10 : Nat))), #[], #[]⟩), rZ 18 (.unOp .not 4 (tZ 17))]
def K2_PressFeeds_r2 : List SO := [rZ 6 (.assign (.const (.bool false)))]
def K2_PressFeeds_r3 : List SO := [mvZ 19 2, rZ 20 (.call ⟨(.value (.func (11 : Nat))), #[(tZ 19), (ciZ 40)], #[3, 3]⟩), asZ 2 20]
def K2_PressFeeds_r4 : List SO := [ldZ 22 25 3, mvZ 23 1, mvZ 24 2, rZ 25 (.call ⟨(.value (.func (12 : Nat))), #[(tZ 22), (tZ 23), (tZ 24)], #[25, 26, 3]⟩), mvZ 21 25, exZ 26 21 0, exZ 27 21 1, asZ 7 26, asZ 8 27]
def K2_PressFeeds_r5 : List SO := [mvZ 28 8, bcZ 29 .neq 30 28 0 30]
def K2_PressFeeds_r6 : List SO := [mvZ 30 7, rZ 31 (.call ⟨(.builtin .len), #[(tZ 30)], #[29]⟩), bcZ 32 .eql 3 31 0 3, asZ 6 32]
def K2_PressFeeds_r7 : List SO := [ldZ 34 25 3, rZ 35 (.call ⟨(.value (.func (16 : Nat))), #[(tZ 34)], #[25]⟩), mvZ 33 35, exZ 36 33 0, exZ 37 33 1, asZ 9 36, asZ 10 37]
def K2_PressFeeds_r8 : List SO := [mvZ 38 10, bcZ 39 .neq 30 38 0 30, mvZ 40 39, gZ 40 false (mvZ 41 9), gZ 40 false (rZ 42 (.binOp .eql 43 (tZ 41) (.const (.pointer none)) 43)), rZ 43 (.pick (tZ 40) (.const (.bool true)) (tZ 42)), mvZ 44 43, gZ 44 false (mvZ 45 9), gZ 44 false (rZ 46 (.call ⟨(.value (.func (17 : Nat))), #[(tZ 45)], #[43]⟩)), gZ 44 false (rZ 47 (.call ⟨(.builtin .len), #[(tZ 46)], #[23]⟩)), gZ 44 false (faZ 48 25 3 4), gZ 44 false (ldZ 49 22 48), gZ 44 false (rZ 50 (.call ⟨(.builtin .len), #[(tZ 49)], #[22]⟩)), gZ 44 false (boZ 51 .neq 3 47 50 3), rZ 52 (.pick (tZ 44) (.const (.bool true)) (tZ 51))]
def K2_PressFeeds_a8 : List (List Nat) := [[], [0], [1], [2], [3, 2], [2, 4], [5, 2], [6], [7, 6, 6], [8, 6], [6], [10, 6], [11, 6], [9, 12, 6], [6, 13]]
def K2_PressFeeds_r9 : List SO := [rZ 6 (.assign (.const (.bool false)))]
def K2_PressFeeds_r10 : List SO := [rZ 11 (.assign (.const (.slice none 0 0)))]
def K2_PressFeeds_r11 : List SO := [rZ 12 (.assign (ciZ 1))]
def K2_PressFeeds_r12 : List SO := [mvZ 53 12, mvZ 54 2, boZ 55 .leq 3 53 54 3]
def K2_PressFeeds_r13 : List SO := [mvZ 58 9, mvZ 59 12, bcZ 60 .add 3 59 1 3, rZ 61 (.build 49 #[(0, (tZ 60)), (1, (ciZ 6))]), rZ 62 (.call ⟨(.value (.func (18 : Nat))), #[(tZ 58), (tZ 61)], #[43, 49]⟩), bcZ 63 .neq 30 62 18 30]
def K2_PressFeeds_r14 : List SO := [rZ 6 (.assign (.const (.bool false)))]
def K2_PressFeeds_r15 : List SO := [mvZ 64 1, rZ 65 (.call ⟨(.builtin .len), #[(tZ 64)], #[26]⟩), rZ 66 (.move (ciZ 0))]
def K2_PressFeeds_r16 : List SO := [boZ 67 .lss 3 66 65 3]
def K2_PressFeeds_r17 : List SO := [iaZ 68 26 64 66, ldZ 69 49 68, rZ 14 (.alloc 49), stZ 49 14 69]
def K2_PressFeeds_r18 : List SO := [faZ 70 49 14 0, ldZ 71 3 70, mvZ 72 12, boZ 73 .eql 3 71 72 3, mvZ 74 73, gZ 74 true (mvZ 75 9), gZ 74 true (ldZ 76 49 14), gZ 74 true (rZ 77 (.call ⟨(.value (.func (18 : Nat))), #[(tZ 75), (tZ 76)], #[43, 49]⟩)), gZ 74 true (bcZ 78 .neq 30 77 0 30), rZ 79 (.pick (tZ 74) (tZ 78) (.const (.bool false)))]
def K2_PressFeeds_r19 : List SO := [rZ 6 (.assign (.const (.bool false)))]
def K2_PressFeeds_r20 : List SO := [bcZ 80 .add 3 66 1 3, mvZ 66 80]
def K2_PressFeeds_r21 : List SO := [mvZ 82 9, rZ 83 (.call ⟨(.value (.func (19 : Nat))), #[(tZ 82)], #[43]⟩), mvZ 81 83, exZ 84 81 0, exZ 85 81 1, rZ 15 (.alloc 37), stZ 37 15 84, asZ 16 85]
def K2_PressFeeds_r22 : List SO := [mvZ 86 16, bcZ 87 .neq 30 86 0 30]
def K2_PressFeeds_r23 : List SO := [rZ 6 (.assign (.const (.bool false)))]
def K2_PressFeeds_r24 : List SO := [mvZ 88 11, ldZ 89 37 15, rZ 90 (.buildSlice 29 1 #[(0, (tZ 89))]), rZ 91 (.call ⟨(.builtin .append), #[(tZ 88), (tZ 90)], #[29, 29]⟩), asZ 11 91]
def K2_PressFeeds_r25 : List SO := [mvZ 56 12, bcZ 57 .add 3 56 1 3, asZ 12 57]
def K2_PressFeeds_r26 : List SO := [mvZ 92 7, mvZ 93 11, rZ 94 (.call ⟨(.value (.func (20 : Nat))), #[(tZ 92), (tZ 93)], #[29, 29]⟩), asZ 6 94]
def K2_PressFeeds_c : SF := ⟨95, (.seq (.reg K2_PressFeeds_r0)
  (.seq (.seq (.reg K2_PressFeeds_r1)
  (.cond (tZ 18) (.seq (.reg K2_PressFeeds_r2)
  .ret) .skip))
  (.seq (.reg K2_PressFeeds_r3)
  (.seq (.reg K2_PressFeeds_r4)
  (.seq (.seq (.reg K2_PressFeeds_r5)
  (.cond (tZ 29) (.seq (.reg K2_PressFeeds_r6)
  .ret) .skip))
  (.seq (.reg K2_PressFeeds_r7)
  (.seq (.seq (.regd K2_PressFeeds_r8 K2_PressFeeds_a8)
  (.cond (tZ 52) (.seq (.reg K2_PressFeeds_r9)
  .ret) .skip))
  (.seq (.reg K2_PressFeeds_r10)
  (.seq (.seq (.reg K2_PressFeeds_r11)
  (.block 0 (.loop (.seq (.seq (.reg K2_PressFeeds_r12)
  (.cond (tZ 55) .skip (.exit 0)))
  (.seq (.block 1 (.seq (.seq (.reg K2_PressFeeds_r13)
  (.cond (tZ 63) (.seq (.reg K2_PressFeeds_r14)
  .ret) .skip))
  (.seq (.seq (.reg K2_PressFeeds_r15)
  (.block 2 (.loop (.seq (.reg K2_PressFeeds_r16)
  (.seq (.cond (tZ 67) .skip (.exit 2))
  (.seq (.block 3 (.seq (.reg K2_PressFeeds_r17)
  (.seq (.reg K2_PressFeeds_r18)
  (.cond (tZ 79) (.seq (.reg K2_PressFeeds_r19)
  .ret) .skip))))
  (.reg K2_PressFeeds_r20)))))))
  (.seq (.reg K2_PressFeeds_r21)
  (.seq (.seq (.reg K2_PressFeeds_r22)
  (.cond (tZ 87) (.seq (.reg K2_PressFeeds_r23)
  .ret) .skip))
  (.reg K2_PressFeeds_r24))))))
  (.reg K2_PressFeeds_r25))))))
  (.seq (.reg K2_PressFeeds_r26)
  .ret)))))))))), [.tmp 6]⟩
theorem K2_PressFeeds_s : slimF Try.prog 5 = some K2_PressFeeds_c := by kernel_rfl
abbrev K2_PressFeeds_f : Nat := 5

end Go.Proofs.Ytbaepacihkgalaa
