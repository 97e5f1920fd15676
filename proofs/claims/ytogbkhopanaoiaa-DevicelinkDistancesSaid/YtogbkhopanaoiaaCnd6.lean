/- Conditions: grey values; a link converts. -/
import Derived.Test.YtogbkhopanaoiaaCnd5
import Derived.Test.YtogbkhopanaoiaaGo
namespace Go.Proofs.Ytogbkhopanaoiaa
open Go Go.Lite
set_option linter.unusedVariables false
set_option linter.unusedSimpArgs false
set_option maxRecDepth 100000
set_option maxHeartbeats 4000000
-- @simp rdi rd2i rdy

theorem convert_y (inn out s : Nat) (vals : List Int) (xs : List Nat) (g : GOk inn out s vals) (hv : inFull vals) (h0 : dlE inn out s vals = 0) (hl : vals.length ≤ 9223372036854775807) (hx : xs.length = inn ∧ ∀ i, i < inn → xs.getD i 0 ≤ 255) :
    TC R Try.prog devicelink_Convert_f [.agg [.int .i64 inn, .int .i64 out, .int .i64 s, .lst Ei vals], .lst Ei (nz xs)] [] (fun v X => v = .tup [.lst Ei (dlQ vals out s xs), .int .i64 0] ∧ X = []) := by
  have dc := dlCheck_c inn out s vals hl
  rw [h0] at dc
  have gi := g.i1
  have lz : (nz xs).length = inn := by rw [nz_len]; exact hx.1
  have tn := tones_c (nz xs) inn (by unfold Due; omega)
  have t0 : tonesE (nz xs) inn = 0 := tonesE_ok.2 ⟨by omega, fun i hi => by
    rw [nz_get]
    have := hx.2 i (by omega)
    omega⟩
  rw [t0] at tn
  have dq := dlQuick_r inn out s vals xs g hv hx
  have lq : (dlQ vals out s xs).length = out := dlQ_len
  obtain ⟨q, hq⟩ : ∃ q, q = dlQ vals out s xs := ⟨_, rfl⟩
  rw [← hq] at dq lq ⊢
  refine tc0 env devicelink_Convert_s (by rfl) ?_
  dsimp only [devicelink_Convert_c]
  repeat' (first
    | ((with_reducible refine TOps.any ?_); refine TOps.callV env (by rfl) (by rfl) (by rfl) (dc) ?_)
    | ((with_reducible refine TOps.any ?_); refine TOps.callV env (by rfl) (by rfl) (by rfl) (tn) ?_)
    | ((with_reducible refine TOps.any ?_); refine TOps.callE env (by rfl) (by rfl) (by rfl) ?_ (dq) (by rfl) ?_)
    | ((with_reducible refine Tw.retI ?_); refine Tw.frz env 1 (by rfl) (by rfl) (by rfl) ?_ ?_ (Tw.ret ?_))
    | refine GZy_i_2i_y lq ?_ ?_ ?_ ?_ ?_ ?_ ?_ ?_
    | with_reducible first | exact BzZq.mk | refine Tw.ret ?_ | refine ImZq.i fun h => ?_ | refine IkZq.i fun hk => ?_)
  rw [cut_all lq.symm]
  exact ⟨rfl, rfl, rfl⟩
end Go.Proofs.Ytogbkhopanaoiaa
