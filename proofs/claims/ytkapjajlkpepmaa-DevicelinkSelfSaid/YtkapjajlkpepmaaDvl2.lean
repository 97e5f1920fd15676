/- Links: Far. -/
import Derived.Test.YtkapjajlkpepmaaDvl1
import Derived.Test.YtkapjajlkpepmaaInv4
import Derived.Test.YtkapjajlkpepmaaGo
namespace Go.Proofs.Ytkapjajlkpepmaa
open Go Go.Lite
set_option linter.unusedVariables false
set_option linter.unusedSimpArgs false
set_option maxRecDepth 100000
set_option maxHeartbeats 4000000
-- @simp rdi rd2i rdL2iJ

theorem dfar_y (p q : Prf) (inn out s1 s2 s : Nat) (v : List Int) (ys zs : List Nat) (wp : PrfW p) (wq : PrfW q) (hv : v.length ≤ 9223372036854775807) (hp : prfE p = 0) (hq : prfE q = 0) (hd : dlE inn out s v = 0)
    (op : PrfOk p inn s1) (oq : PrfOk q out s2) (g : GOk inn out s v) (hf : inFull v) (hy : ys.length = inn ∧ ∀ i, i < inn → ys.getD i 0 ≤ 255) (hz : dlQ v out s ys = nz zs) (hz2 : zs.length = out ∧ ∀ i, i < out → zs.getD i 0 ≤ 255) :
    TC R Try.prog devicelink_Far_f [.agg (encP p), .agg (encP q), .agg [.int .i64 inn, .int .i64 out, .int .i64 s, .lst Ei v], .lst Ei (nz ys)] []
    (fun w X => w = .tup [.int .i64 (far (pcol p inn s1 ys 0) (pcol p inn s1 ys 1) (pcol p inn s1 ys 2) (pcol q out s2 zs 0) (pcol q out s2 zs 1) (pcol q out s2 zs 2)), .int .i64 0] ∧ X = []) := by
  have pc := prfCheck_c p wp
  have qc := prfCheck_c q wq
  have dc := dlCheck_c inn out s v hv
  rw [hp] at pc
  rw [hq] at qc
  rw [hd] at dc
  have gi := g.i1
  have lz : (nz ys).length = inn := by rw [nz_len]; exact hy.1
  have tn := tones_c (nz ys) inn (by unfold Due; omega)
  rw [tonesE_ok.2 ⟨by rw [lz], fun i hi => by
    rw [nz_get]
    have := hy.2 i (by omega)
    omega⟩] at tn
  have w1 := op.il
  have w2 := oq.il
  have c1 := pquick_c p inn s1 ys op hy
  have c2 := pquick_c q out s2 zs oq hz2
  have dq := dlQuick_r inn out s v ys g hf hy
  rw [hz] at dq
  have l2 : (nz zs).length = out := by rw [nz_len]; exact hz2.1
  have fc := far_c _ _ _ _ _ _ (pcol_ok op hy) (pcol_ok oq hz2)
  rw [← show cut (nz zs) 0 out = nz zs from cut_all l2.symm] at c2
  have l3 : 0 + out ≤ (nz zs).length := by omega
  refine tc0 env devicelink_Far_s (by rfl) ?_
  dsimp only [devicelink_Far_c, encP]
  repeat' (first
    | ((with_reducible refine TOps.any ?_); refine TOps.callV env (by rfl) (by rfl) (by rfl) (pc) ?_)
    | ((with_reducible refine TOps.any ?_); refine TOps.callV env (by rfl) (by rfl) (by rfl) (qc) ?_)
    | ((with_reducible refine TOps.any ?_); refine TOps.callV env (by rfl) (by rfl) (by rfl) (dc) ?_)
    | ((with_reducible refine TOps.any ?_); refine TOps.callV env (by rfl) (by rfl) (by rfl) (tn) ?_)
    | ((with_reducible refine TOps.any ?_); refine TOps.callE env (by rfl) (by rfl) (by rfl) ?_ (c1) (by rfl) ?_)
    | ((with_reducible refine TOps.any ?_); refine TOps.callE env (by rfl) (by rfl) (by rfl) ?_ (dq) (by rfl) ?_)
    | ((with_reducible refine TOps.any ?_); refine TOps.callE env (by rfl) (by rfl) (by rfl) ?_ (c2) (by rfl) ?_)
    | ((with_reducible refine TOps.any ?_); refine TOps.callV env (by rfl) (by rfl) (by rfl) (fc) ?_)
    | exact l3
    | refine GZp_i_2i_L2iJ ?_ ?_ ?_ ?_ ?_ ?_ ?_ ?_
    | with_reducible first | exact BzZq.mk | refine Tw.ret ?_ | refine ImZq.i fun h => ?_ | refine IkZq.i fun hk => ?_)
  exact ⟨rfl, rfl, rfl⟩
end Go.Proofs.Ytkapjajlkpepmaa
