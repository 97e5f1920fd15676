/- Links: Far. -/
import Derived.Test.YtogbkhopanaoiaaDvl1
import Derived.Test.YtogbkhopanaoiaaPrfM
import Derived.Test.YtogbkhopanaoiaaGo
namespace Go.Proofs.Ytogbkhopanaoiaa
open Go Go.Lite
set_option linter.unusedVariables false
set_option linter.unusedSimpArgs false
set_option maxRecDepth 100000
set_option maxHeartbeats 4000000
-- @simp rdi rd2i rdy rdL2iJ

theorem nat_tones {q : List Int} (h : inTone q) : ∃ zs : List Nat, q = nz zs ∧ zs.length = q.length ∧ ∀ i, i < q.length → zs.getD i 0 ≤ 255 := by
  obtain ⟨zs, h1, h2, h3⟩ := tones_nat (xs := q) (n := q.length) (tonesE_ok.2 ⟨rfl, h⟩)
  exact ⟨zs, h1, h2, h3⟩
/-- What Far asks for. -/
noncomputable def farE (p q : Prf) (a b c : Int) (v xs : List Int) : Int :=
  if prfE p ≠ 0 then prfE p else if prfE q ≠ 0 then prfE q else if dlE a b c v ≠ 0 then dlE a b c v
  else if a ≠ p.inks.length ∨ b ≠ q.inks.length then 4 else tonesE xs a
theorem dfar_n (p q : Prf) (a b c : Int) (v xs : List Int) (wp : PrfW p) (wq : PrfW q) (hv : v.length ≤ 9223372036854775807) (hx : xs.length ≤ 9223372036854775807) (h : farE p q a b c v xs ≠ 0) :
    TC R Try.prog devicelink_Far_f [.agg (encP p), .agg (encP q), .agg [.int .i64 a, .int .i64 b, .int .i64 c, .lst Ei v], .lst Ei xs] [] (fun w X => w = .tup [.int .i64 0, .int .i64 (farE p q a b c v xs)] ∧ X = []) := by
  have pc := prfCheck_c p wp
  have qc := prfCheck_c q wq
  have dc := dlCheck_c a b c v hv
  have tn := tones_c xs a hx
  have w1 := wp.inks
  have w2 := wq.inks
  refine tc0 env devicelink_Far_s (by rfl) ?_
  dsimp only [devicelink_Far_c, encP]
  unfold farE at h ⊢
  by_cases h1 : prfE p ≠ 0
  · rw [if_pos h1]
    repeat' (first
      | ((with_reducible refine TOps.any ?_); refine TOps.callV env (by rfl) (by rfl) (by rfl) (pc) ?_)
      | refine GZp_i_2i_y_L2iJ ?_ ?_ ?_ ?_ ?_ ?_ ?_ ?_
      | with_reducible first | exact BzZq.mk | refine Tw.ret ?_ | refine ImZq.i fun h => ?_ | refine IkZq.i fun hk => ?_)
    exact ⟨rfl, rfl, rfl⟩
  rw [if_neg h1] at h ⊢
  rw [show prfE p = 0 by simpa using h1] at pc
  by_cases h2 : prfE q ≠ 0
  · rw [if_pos h2]
    repeat' (first
      | ((with_reducible refine TOps.any ?_); refine TOps.callV env (by rfl) (by rfl) (by rfl) (pc) ?_)
      | ((with_reducible refine TOps.any ?_); refine TOps.callV env (by rfl) (by rfl) (by rfl) (qc) ?_)
      | refine GZp_i_2i_y_L2iJ ?_ ?_ ?_ ?_ ?_ ?_ ?_ ?_
      | with_reducible first | exact BzZq.mk | refine Tw.ret ?_ | refine ImZq.i fun h => ?_ | refine IkZq.i fun hk => ?_)
    exact ⟨rfl, rfl, rfl⟩
  rw [if_neg h2] at h ⊢
  rw [show prfE q = 0 by simpa using h2] at qc
  by_cases h3 : dlE a b c v ≠ 0
  · rw [if_pos h3]
    repeat' (first
      | ((with_reducible refine TOps.any ?_); refine TOps.callV env (by rfl) (by rfl) (by rfl) (pc) ?_)
      | ((with_reducible refine TOps.any ?_); refine TOps.callV env (by rfl) (by rfl) (by rfl) (qc) ?_)
      | ((with_reducible refine TOps.any ?_); refine TOps.callV env (by rfl) (by rfl) (by rfl) (dc) ?_)
      | refine GZp_i_2i_y_L2iJ ?_ ?_ ?_ ?_ ?_ ?_ ?_ ?_
      | with_reducible first | exact BzZq.mk | refine Tw.ret ?_ | refine ImZq.i fun h => ?_ | refine IkZq.i fun hk => ?_)
    exact ⟨rfl, rfl, rfl⟩
  rw [if_neg h3] at h ⊢
  rw [show dlE a b c v = 0 by simpa using h3] at dc
  by_cases h4 : a ≠ p.inks.length ∨ b ≠ q.inks.length
  · rw [if_pos h4]
    repeat' (first
      | ((with_reducible refine TOps.any ?_); refine TOps.callV env (by rfl) (by rfl) (by rfl) (pc) ?_)
      | ((with_reducible refine TOps.any ?_); refine TOps.callV env (by rfl) (by rfl) (by rfl) (qc) ?_)
      | ((with_reducible refine TOps.any ?_); refine TOps.callV env (by rfl) (by rfl) (by rfl) (dc) ?_)
      | refine GZp_i_2i_y_L2iJ ?_ ?_ ?_ ?_ ?_ ?_ ?_ ?_
      | with_reducible first | exact BzZq.mk | refine Tw.ret ?_ | refine ImZq.i fun h => ?_ | refine IkZq.i fun hk => ?_)
    all_goals exact ⟨rfl, rfl, rfl⟩
  rw [if_neg h4] at h ⊢
  repeat' (first
    | ((with_reducible refine TOps.any ?_); refine TOps.callV env (by rfl) (by rfl) (by rfl) (pc) ?_)
    | ((with_reducible refine TOps.any ?_); refine TOps.callV env (by rfl) (by rfl) (by rfl) (qc) ?_)
    | ((with_reducible refine TOps.any ?_); refine TOps.callV env (by rfl) (by rfl) (by rfl) (dc) ?_)
    | ((with_reducible refine TOps.any ?_); refine TOps.callV env (by rfl) (by rfl) (by rfl) (tn) ?_)
    | refine GZp_i_2i_y_L2iJ ?_ ?_ ?_ ?_ ?_ ?_ ?_ ?_
    | with_reducible first | exact BzZq.mk | refine Tw.ret ?_ | refine ImZq.i fun h => ?_ | refine IkZq.i fun hk => ?_)
  exact ⟨rfl, rfl, rfl⟩
theorem dfar_y (p q : Prf) (inn out s1 s2 s : Nat) (v : List Int) (ys zs : List Nat) (wp : PrfW p) (wq : PrfW q) (hv : v.length ≤ 9223372036854775807) (hp : prfE p = 0) (hq : prfE q = 0) (hd : dlE inn out s v = 0)
    (op : PrfOk p inn s1) (oq : PrfOk q out s2) (g : GOk inn out s v) (hf : inFull v) (hy : ys.length = inn ∧ ∀ i, i < inn → ys.getD i 0 ≤ 255) (hz : dlQ v out s ys = nz zs) (hz2 : zs.length = out ∧ ∀ i, i < out → zs.getD i 0 ≤ 255) :
    TC R Try.prog devicelink_Far_f [.agg (encP p), .agg (encP q), .agg [.int .i64 inn, .int .i64 out, .int .i64 s, .lst Ei v], .lst Ei (nz ys)] []
    (fun w X => w = .tup [.int .i64 (far (pcol p inn s1 ys 0) (pcol p inn s1 ys 1) (pcol p inn s1 ys 2) (pcol q out s2 zs 0) (pcol q out s2 zs 1) (pcol q out s2 zs 2)), .int .i64 0] ∧ X = []) := by
  have pc := prfCheck_c p wp
  have qc := prfCheck_c q wq
  have dc := dlCheck_c inn out s v hv
  rw [hp] at pc
  rw [hq] at qc
  rw [hd] at dc
  have gi := g.i1
  have lz : (nz ys).length = inn := by rw [nz_len]; exact hy.1
  have tn := tones_c (nz ys) inn (by unfold Due; omega)
  rw [tonesE_ok.2 ⟨by rw [lz], fun i hi => by
    rw [nz_get]
    have := hy.2 i (by omega)
    omega⟩] at tn
  have w1 := op.il
  have w2 := oq.il
  have c1 := pquick_c p inn s1 ys op hy
  have c2 := pquick_c q out s2 zs oq hz2
  have dq := dlQuick_r inn out s v ys g hf hy
  rw [hz] at dq
  have l2 : (nz zs).length = out := by rw [nz_len]; exact hz2.1
  have fc := far_c _ _ _ _ _ _ (pcol_ok op hy) (pcol_ok oq hz2)
  rw [← show cut (nz zs) 0 out = nz zs from cut_all l2.symm] at c2
  have l3 : 0 + out ≤ (nz zs).length := by omega
  refine tc0 env devicelink_Far_s (by rfl) ?_
  dsimp only [devicelink_Far_c, encP]
  repeat' (first
    | ((with_reducible refine TOps.any ?_); refine TOps.callV env (by rfl) (by rfl) (by rfl) (pc) ?_)
    | ((with_reducible refine TOps.any ?_); refine TOps.callV env (by rfl) (by rfl) (by rfl) (qc) ?_)
    | ((with_reducible refine TOps.any ?_); refine TOps.callV env (by rfl) (by rfl) (by rfl) (dc) ?_)
    | ((with_reducible refine TOps.any ?_); refine TOps.callV env (by rfl) (by rfl) (by rfl) (tn) ?_)
    | ((with_reducible refine TOps.any ?_); refine TOps.callE env (by rfl) (by rfl) (by rfl) ?_ (c1) (by rfl) ?_)
    | ((with_reducible refine TOps.any ?_); refine TOps.callE env (by rfl) (by rfl) (by rfl) ?_ (dq) (by rfl) ?_)
    | ((with_reducible refine TOps.any ?_); refine TOps.callE env (by rfl) (by rfl) (by rfl) ?_ (c2) (by rfl) ?_)
    | ((with_reducible refine TOps.any ?_); refine TOps.callV env (by rfl) (by rfl) (by rfl) (fc) ?_)
    | exact l3
    | refine GZp_i_2i_y_L2iJ ?_ ?_ ?_ ?_ ?_ ?_ ?_ ?_
    | with_reducible first | exact BzZq.mk | refine Tw.ret ?_ | refine ImZq.i fun h => ?_ | refine IkZq.i fun hk => ?_)
  exact ⟨rfl, rfl, rfl⟩
end Go.Proofs.Ytogbkhopanaoiaa
