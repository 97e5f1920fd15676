/- Printed by program (gen.lean): code in few words; the kernel checks it against the translation. -/
import Derived.Test.YtbaepacihkgalaaX0
namespace Go.Proofs.Ytbaepacihkgalaa
open Go Go.Lite
set_option linter.unusedVariables false

/-- printworks/printworkskeep2.ControlIdle -/
def K2_ControlIdle_r0 : List SO := [rZ 3 (.box 25 (tZ 0)), rZ 6 (.assign (.const (.bool false)))]
def K2_ControlIdle_r1 : List SO := [rZ 11 (.call ⟨(.value (.func (21 : Nat))), #[], #[]⟩), rZ 12 (.unOp .not 4 (tZ 11))]
def K2_ControlIdle_r2 : List SO := [rZ 6 (.assign (.const (.bool false)))]
def K2_ControlIdle_r3 : List SO := [mvZ 13 2, rZ 14 (.call ⟨(.value (.func (11 : Nat))), #[(tZ 13), (ciZ 50)], #[3, 3]⟩), asZ 2 14]
def K2_ControlIdle_r4 : List SO := [ldZ 16 25 3, mvZ 17 1, mvZ 18 2, rZ 19 (.call ⟨(.value (.func (12 : Nat))), #[(tZ 16), (tZ 17), (tZ 18)], #[25, 26, 3]⟩), mvZ 15 19, exZ 20 15 0, exZ 21 15 1, asZ 7 20, asZ 8 21]
def K2_ControlIdle_r5 : List SO := [ldZ 23 25 3, rZ 24 (.build 54 #[(0, (ciZ 4000)), (1, (ciZ 4000))]), mvZ 25 1, mvZ 26 2, rZ 27 (.call ⟨(.value (.func (22 : Nat))), #[(tZ 23), (tZ 24), (tZ 25), (tZ 26)], #[25, 54, 26, 3]⟩), mvZ 22 27, exZ 28 22 0, exZ 29 22 1, asZ 9 28, asZ 10 29]
def K2_ControlIdle_r6 : List SO := [mvZ 30 8, mvZ 31 10, boZ 32 .eql 30 30 31 30, mvZ 33 32, gZ 33 true (mvZ 34 7), gZ 33 true (mvZ 35 9), gZ 33 true (rZ 36 (.call ⟨(.value (.func (20 : Nat))), #[(tZ 34), (tZ 35)], #[29, 29]⟩)), rZ 37 (.pick (tZ 33) (tZ 36) (.const (.bool false))), asZ 6 37]
def K2_ControlIdle_c : SF := ⟨38, (.seq (.reg K2_ControlIdle_r0)
  (.seq (.seq (.reg K2_ControlIdle_r1)
  (.cond (tZ 12) (.seq (.reg K2_ControlIdle_r2)
  .ret) .skip))
  (.seq (.reg K2_ControlIdle_r3)
  (.seq (.reg K2_ControlIdle_r4)
  (.seq (.reg K2_ControlIdle_r5)
  (.seq (.reg K2_ControlIdle_r6)
  .ret)))))), [.tmp 6]⟩
theorem K2_ControlIdle_s : slimF Try.prog 8 = some K2_ControlIdle_c := by kernel_rfl
abbrev K2_ControlIdle_f : Nat := 8

end Go.Proofs.Ytbaepacihkgalaa
