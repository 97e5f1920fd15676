/- Spot inks: names, one ink, a tint. -/
import Derived.Test.YtogbkhopanaoiaaRef1
import Derived.Test.YtogbkhopanaoiaaCurve3
import Derived.Test.YtogbkhopanaoiaaTones
import Derived.Test.YtogbkhopanaoiaaXDevicelinkComposed0
import Derived.Test.YtogbkhopanaoiaaLists
import Derived.Test.YtogbkhopanaoiaaGo
namespace Go.Proofs.Ytogbkhopanaoiaa
open Go Go.Lite
set_option linter.unusedVariables false
set_option linter.unusedSimpArgs false
set_option maxRecDepth 100000
set_option maxHeartbeats 4000000
-- @simp rdi rd2i

def nameCh (x : Int) : Prop := (97 ≤ x ∧ x ≤ 122) ∨ (48 ≤ x ∧ x ≤ 57) ∨ x = 45
def nameOk (s : ByteArray) : Prop := 1 ≤ s.size ∧ s.size ≤ 16 ∧ (97 ≤ sat s 0 ∧ sat s 0 ≤ 122) ∧ ∀ j, j < s.size → nameCh (sat s j)
open Classical in
noncomputable def isName (s : ByteArray) : Bool := decide (nameOk s)
abbrev Sp := ByteArray × Int × Int × Int × Int × Int × Int × List (Int × Int) × List Int
noncomputable def spE (n : ByteArray) (p q r a b c : Int) (l : List (Int × Int)) (t : List Int) : Int := if isName n then if labE p q r = 0 then if labE a b c = 0 then if check l = 0 then if 8 < t.length then 2 else tonesE t t.length else check l else labE a b c else labE p q r else 6
end Go.Proofs.Ytogbkhopanaoiaa
