/- Spot inks: names, one ink, a tint. -/
import Derived.Test.YtogbkhopanaoiaaRef1
import Derived.Test.YtogbkhopanaoiaaCurve3
import Derived.Test.YtogbkhopanaoiaaTones
import Derived.Test.YtogbkhopanaoiaaXConditionTotals0
import Derived.Test.YtogbkhopanaoiaaNames
import Derived.Test.YtogbkhopanaoiaaGo
namespace Go.Proofs.Ytogbkhopanaoiaa
open Go Go.Lite
set_option linter.unusedVariables false
set_option linter.unusedSimpArgs false
set_option maxRecDepth 100000
set_option maxHeartbeats 4000000
-- @simp rdi rd2i

abbrev Sp := ByteArray × Int × Int × Int × Int × Int × Int × List (Int × Int) × List Int
noncomputable def spE (n : ByteArray) (p q r a b c : Int) (l : List (Int × Int)) (t : List Int) : Int := if isName n then if labE p q r = 0 then if labE a b c = 0 then if check l = 0 then if 8 < t.length then 2 else tonesE t t.length else check l else labE a b c else labE p q r else 6
theorem spE_ok {n : ByteArray} {p q r a b c : Int} {l : List (Int × Int)} {t : List Int} : spE n p q r a b c l t = 0 ↔ isName n = true ∧ labE p q r = 0 ∧ labE a b c = 0 ∧ check l = 0 ∧ t.length ≤ 8 ∧ tonesE t t.length = 0 := by
  unfold spE
  repeat' split
  all_goals first | (constructor <;> (intro h; first | omega | (simp_all; done) | (simp_all; omega))) | (simp_all; done) | (simp_all; omega)
theorem one_c (n : ByteArray) (p q r a b c : Int) (l : List (Int × Int)) (t : List Int) (hs : Due (n.size ≤ 9223372036854775807)) (ht : Due (t.length ≤ 9223372036854775807)) :
    TC R Try.prog spot_one_f [.pel [.str n, .int .i64 p, .int .i64 q, .int .i64 r, .int .i64 a, .int .i64 b, .int .i64 c, .lst E2i l, .lst Ei t]] [] (fun v X => v = .int .i64 (spE n p q r a b c l t) ∧ X = []) := by
  dsimp only [Due] at hs ht
  refine tc0 env spot_one_s (by rfl) ?_
  dsimp only [spot_one_c]
  repeat' (first
    | ((with_reducible refine TOps.any ?_); refine TOps.callV env (by rfl) (by rfl) (by rfl) (isName_c _ hs) ?_)
    | ((with_reducible refine TOps.any ?_); refine TOps.callV env (by rfl) (by rfl) (by rfl) (refCheck_c _ _ _) ?_)
    | ((with_reducible refine TOps.any ?_); refine TOps.callV env (by rfl) (by rfl) (by rfl) (check_c _) ?_)
    | ((with_reducible refine TDr.any ?_); refine TDr.callE env (by first | rfl | assumption) (by rfl) (by rfl) ?_ (tones_c _ _ ht) (by rfl) (by rfl) ?_)
    | ((with_reducible refine TOps.any ?_); refine TOps.callV env (by rfl) (by rfl) (by rfl) (tones_c _ _ ht) ?_)
    | refine GZ_i_2i ?_ ?_ ?_ ?_ ?_ ?_ ?_ ?_
    | with_reducible first | exact BzZq.mk | refine Tw.ret ?_ | refine ImZq.i fun h => ?_ | refine IkZq.i fun hk => ?_)
  all_goals exact ⟨rfl, congrArg (TV.int .i64) (by unfold spE; (repeat' split) <;> first | rfl | omega | simp_all), rfl⟩

end Go.Proofs.Ytogbkhopanaoiaa
