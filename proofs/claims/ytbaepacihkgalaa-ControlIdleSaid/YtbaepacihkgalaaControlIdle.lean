/- A controller that never corrects changes nothing. -/
import Derived.Test.YtbaepacihkgalaaRows
import Derived.Test.YtbaepacihkgalaaRControlIdle
import Derived.WalkKit
import Derived.ProofKit
import Derived.OpenShut
namespace Go.Proofs.Ytbaepacihkgalaa.controlIdle
open Go.Lite Go.ChangeShapes Go.WideShapes Go.ChangeAt Go.RowKit
set_option linter.unusedVariables false

theorem own : ownKnob Try.prog.godebug = none := by kernel_rfl
theorem plain : (Try.f8.params.toList.all fun t => plainT Try.prog 8 t && oneT Try.prog t) = true := by kernel_rfl
theorem readable : (Try.f8.params.toList.all fun t => Try.prog.readableRec t && decide (t < Try.prog.types.size)) = true := by kernel_rfl
theorem laid : laidOutB Try.prog = true := by kernel_rfl

set_option maxRecDepth 100000 in
theorem lifted (os : Os) (started : os.Started) (H : Type) (enc : TypeId × Value → H) :
    ReturnsInHanded {} Try.checked os 8 .any (Rows.controlIdleSpec.pre6 enc Try.prog Try.f8 Rows.controlIdleRow.domain false) (Rows.controlIdleSpec.post enc Try.prog Try.f8 false true false false) := by
  refine returnsInHanded_of_change (C := Try.checked) own started (by kernel_rfl) Try.func8
    (ChangeSpec.witness6 (enc := enc) (C := Try.checked) false ⟨#[], #[.agg #[.int .i64 0, .int .i64 0, .int .i64 0, .int .i64 0, .slice none 0 0, .slice none 0 0, .slice none 0 0], .slice none 0 0, .int .i64 0], []⟩ 8 (by kernel_rfl) (by kernel_rfl) (by kernel_rfl) (by kernel_rfl)) ?_
  intro W base args ds gs before hval0 hW hcnd _
  have hval : ∀ (j : Nat) t v, Try.f8.params.toList[j]? = some t → args.toList[j]? = some v → Value.okWide Try.prog W .any base t v := fun j t v a b => hval0 j t v (by simpa using a) (by simpa using b)
  have hW' := hW
  have hlt := fun x (hx : x ∈ before) => hW.lt x hx
  obtain ⟨p, q, hA, hV, rfl, hfz, hnd⟩ := hW
  obtain ⟨rfl, rfl⟩ := trodVars_none hV
  obtain ⟨xs, hx, hl⟩ := trodAll_shp _ _ _ _ plain hA hval
  refine (LC.law (rdControlIdle.any xs hx) hl).mono fun e W' ⟨h1, hg⟩ => ?_
  subst h1
  have hfn : (Rows.controlIdleSpec.fn H (ds ++ [])).args = ds ∧ (Rows.controlIdleSpec.fn H (ds ++ [])).results = [.lit (.bool true)] ∧ (Rows.controlIdleSpec.fn H (ds ++ [])).vars = [] := by
    have hn := trodAll_len hA
    match ds, hn with
    | [_, _, _], _ => exact ⟨rfl, rfl, rfl⟩
  refine ⟨_, rfl, post_of_below (pa := p) (pv := []) hg hW' (fun _ _ _ => ?_) (fun sp hsp => ?_) (fun _ _ => ?_) rfl (ok_one (by kernel_rfl) rfl (okWide_bool_mk Try.underlying4 _))⟩
  · rw [hfn.2.1]
    exact trodAll_cons_mk (shut_bool Try.underlying4 _) trodAll_mk0
  · rw [hfn.1]
    exact trodAll_stays laid hg _ _ _ _ readable hA (fun x hx => hlt x (by simpa using hx)) (fun x hx => hsp x (by simpa using hx))
  · rw [hfn.2.2]
    rfl

theorem over : Rows.controlIdleRow.holds Try.pinned (OpenSpec.ofChange Rows.controlIdleSpec) :=
  OpenClaim.holds_of_wide 8 Try.f8 rfl rfl rfl rfl rfl rfl rfl ⟨rfl, rfl, rfl, rfl, rfl⟩ rfl rfl rfl rfl rfl (by kernel_rfl) Try.func8 (by kernel_rfl)
    (of_decide_eq_true (by kernel_rfl)) (by unfold Func.isWrapper; first | (rw [if_pos (by decide +kernel)]; kernel_rfl) | (rw [if_neg (by decide +kernel)]; exact ⟨rfl, rfl⟩))
    (fun os started H enc _ => lifted os started H enc)

theorem proved : Rows.ControlIdleSaid :=
  over
end Go.Proofs.Ytbaepacihkgalaa.controlIdle
