/- Colours of tones by a profile. -/
import Derived.Test.YtogbkhopanaoiaaPrf1
import Derived.Test.YtogbkhopanaoiaaCnd5
import Derived.Test.YtogbkhopanaoiaaCurve3
import Derived.Test.YtogbkhopanaoiaaGo
namespace Go.Proofs.Ytogbkhopanaoiaa
open Go Go.Lite
set_option linter.unusedVariables false
set_option linter.unusedSimpArgs false
set_option maxRecDepth 100000
set_option maxHeartbeats 4000000
-- @simp rdi rd2i rdL2iJ

noncomputable def fn1 (p : Prf) (k : Nat) (t : Int) : Int := raw (p.cs.getD k []) (256 * t)
theorem fineOne_c (p : Prf) (k : Nat) (t : Int) (hk : Due (k < p.cs.length)) (hv : Valid (p.cs.getD k [])) (ht : Due (0 ≤ t ∧ t ≤ 255)) :
    TC R Try.prog profile_FineOne_f [.pel (encP p), .int .i64 k, .int .i64 t] [] (fun v X => v = .int .i64 (fn1 p k t) ∧ X = []) := by
  dsimp only [Due] at hk ht
  have rc := raw_c (p.cs.getD k (R.d EL2iJ)) (256 * t) hv (by unfold Due; omega)
  refine tc0 env profile_FineOne_s (by rfl) ?_
  dsimp only [profile_FineOne_c, encP]
  repeat' (first
    | ((with_reducible refine TOps.any ?_); refine TOps.callV env (by rfl) (by rfl) (by rfl) (rc) ?_)
    | refine GZp_i_2i_L2iJ ?_ ?_ ?_ ?_ ?_ ?_ ?_ ?_
    | with_reducible first | exact BzZq.mk | refine Tw.ret ?_ | refine ImZq.i fun h => ?_ | refine IkZq.i fun hk => ?_)
  exact ⟨rfl, rfl, rfl⟩
theorem fn1_bd {p : Prf} {k : Nat} {t : Int} (hv : Valid (p.cs.getD k [])) (ht : 0 ≤ t ∧ t ≤ 255) : 0 ≤ fn1 p k t ∧ fn1 p k t ≤ 65280 := by
  have b := raw_bd hv (x := 256 * t) (by omega)
  have l := hv.len
  have r := hv.rg ((p.cs.getD k []).length - 1) (by omega)
  unfold fn1
  omega
noncomputable def fnN (p : Prf) (ys : List Nat) (k : Nat) : Nat := (fn1 p k (ys.getD k 0 : Nat)).toNat
noncomputable def fnL (p : Prf) (ys : List Nat) (inn : Nat) : List Nat := tab inn (fnN p ys)
theorem fine_r (p : Prf) (inn : Nat) (ys : List Nat) (hn : inn ≤ 4) (hc : p.cs.length = inn) (hv : ∀ i, i < inn → Valid (p.cs.getD i [])) (hy : ys.length = inn ∧ ∀ i, i < inn → ys.getD i 0 ≤ 255) :
    TC R Try.prog profile_Fine_f [.pel (encP p), .lst Ei (nz ys)] [] (fun v X => v = .sla 1 0 0 inn ∧ X = [some (.arr Ei (nz (fnL p ys inn)))]) := by
  obtain ⟨hy, hb⟩ := hy
  have lz : (nz ys).length = inn := by rw [nz_len]; exact hy
  have en : nz (fnL p ys inn) = tab inn fun i => fn1 p i (ys.getD i 0 : Nat) := is_tab 0 (by rw [nz_len]; exact tab_len) fun i hi => by
    rw [nz_get]
    unfold fnL
    rw [tab_get hi]
    have := fn1_bd (hv i hi) (t := (ys.getD i 0 : Nat)) (by have := hb i hi; omega)
    unfold fnN
    omega
  rw [en]
  obtain ⟨G, hG⟩ : ∃ G : Nat → Int, G = fun i => fn1 p i (ys.getD i 0 : Nat) := ⟨_, rfl⟩
  have fo : ∀ i, i < inn → TC R Try.prog profile_FineOne_f [.pel (encP p), .int .i64 i, .int .i64 ((nz ys).getD i 0)] [] (fun v X => v = .int .i64 (G i) ∧ X = []) := fun i hi => by
    rw [nz_get, hG]
    exact fineOne_c p i _ (by unfold Due; omega) (hv i hi) (by have := hb i hi; unfold Due; omega)
  rw [← hG]
  refine tc env profile_Fine_s (by rfl) ?_
  dsimp only [profile_Fine_c]
  repeat' (first
    | refine GZy_i_2i_L2iJ lz ?_ ?_ ?_ ?_ ?_ ?_ ?_ ?_
    | with_reducible first | exact BzZq.mk | refine Tw.ret ?_ | refine ImZq.i fun h => ?_ | refine IkZq.i fun hk => ?_)
  rw [lz, Int.toNat_natCast]
  refine Tw.loopK [0, 11, 12] (fun i : Nat => i ≤ inn) (fun i => inn - i) (fun i => [(13, .int .i64 i), (5, .sla 1 0 0 inn)]) (fun i => [some (.arr Ei (ptab inn i G))]) ⟨0, by omega, ?_⟩ (fun i hi => ?_)
  · rw [ptab_zero]
    refine TWk.fcanon env [some 0] (by rfl) ?_
    repeat' (first
      | exact lz
      | exact lz.symm
      | with_reducible first | exact Conj.nil | refine Conj.cons rfl ?_ | refine Conj.same ?_ | refine Conj.ask ?_ ?_
      | ((with_reducible refine Due.mk ?_); (first | with_reducible rfl | omega | assumption | decide | ((try simp only [goS] at *) <;> (try intro h) <;> (try intro h') <;> (try simp only [goS] at *) <;> (try simp only [rdi, rd2i, rdL2iJ, Int.toNat_natCast, Nat.add_zero] at *) <;> (try simp only [rng]) <;> (first | assumption | omega)) | (exact due_app0 (by omega)) | (exact due_app (by omega)) | (intros; simp; done) | (intros; simp; omega)))
      | with_reducible refine Due.mk ?_
      | omega)
  have pl : (ptab inn i G).length = inn := ptab_len
  rcases Nat.lt_or_ge i inn with hi2 | hi2
  · have fc := fo i hi2
    have ps : (ptab inn i G).set i (G i) = ptab inn (i + 1) G := ptab_set
    repeat' (first
      | ((with_reducible refine TOps.any ?_); refine TOps.callV env (by rfl) (by rfl) (by rfl) (fc) ?_)
      | refine GZy_i_2i_L2iJ (And.intro pl lz) ?_ ?_ ?_ ?_ ?_ ?_ ?_ ?_
      | with_reducible first | exact BzZq.mk | refine Tw.ret ?_ | refine ImZq.i fun h => ?_ | refine IkZq.i fun hk => ?_)
    refine ⟨i + 1, by omega, by omega, TWk.fcanon env [some 0] (by rfl) ?_⟩
    repeat' (first
      | exact ps.symm
      | with_reducible first | exact Conj.nil | refine Conj.cons rfl ?_ | refine Conj.same ?_ | refine Conj.ask ?_ ?_
      | ((with_reducible refine Due.mk ?_); (first | with_reducible rfl | omega | assumption | decide | ((try simp only [goS] at *) <;> (try intro h) <;> (try intro h') <;> (try simp only [goS] at *) <;> (try simp only [rdi, rd2i, rdL2iJ, Int.toNat_natCast, Nat.add_zero] at *) <;> (try simp only [rng]) <;> (first | assumption | omega)) | (exact due_app0 (by omega)) | (exact due_app (by omega)) | (intros; simp; done) | (intros; simp; omega)))
      | with_reducible refine Due.mk ?_
      | omega)
  obtain rfl : i = inn := by omega
  rw [ptab_all]
  repeat' (first
    | refine GZp_i_2i_L2iJ ?_ ?_ ?_ ?_ ?_ ?_ ?_ ?_
    | with_reducible first | exact BzZq.mk | refine Tw.ret ?_ | refine ImZq.i fun h => ?_ | refine IkZq.i fun hk => ?_)
  exact ⟨rfl, rfl⟩
theorem fnL_ok {p : Prf} {inn : Nat} {ys : List Nat} (hv : ∀ i, i < inn → Valid (p.cs.getD i [])) (hy : ys.length = inn ∧ ∀ i, i < inn → ys.getD i 0 ≤ 255) : (fnL p ys inn).length = inn ∧ ∀ i, i < inn → (fnL p ys inn).getD i 0 ≤ 65280 := by
  refine ⟨tab_len, fun i hi => ?_⟩
  unfold fnL
  rw [tab_get hi]
  have := fn1_bd (hv i hi) (t := (ys.getD i 0 : Nat)) (by have := hy.2 i hi; omega)
  unfold fnN
  omega
noncomputable def pcol (p : Prf) (inn s : Nat) (ys : List Nat) (o : Nat) : Int := gat p.v 3 s o (fnL p ys inn)
theorem pquick_c (p : Prf) (inn s : Nat) (ys : List Nat) (h : PrfOk p inn s) (hy : ys.length = inn ∧ ∀ i, i < inn → ys.getD i 0 ≤ 255) :
    TC R Try.prog profile_Quick_f [.pel (encP p), .lst Ei (nz ys)] [] (fun v X => v = .agg [.int .i64 (pcol p inn s ys 0), .int .i64 (pcol p inn s ys 1), .int .i64 (pcol p inn s ys 2)] ∧ X = []) := by
  have gi := h.g.i1
  have fr := fine_r p inn ys gi.2 h.cl h.cv hy
  have fo := fnL_ok h.cv hy
  have qr := quick_r inn 3 s p.v (fnL p ys inn) h.g fo
  rw [← h.ea, ← h.ec, show (((3 : Nat) : Int)) = p.b from h.eb.symm] at qr
  have e3 : (tab 3 fun o => gat p.v 3 s o (fnL p ys inn)) = [pcol p inn s ys 0, pcol p inn s ys 1, pcol p inn s ys 2] := rfl
  rw [e3] at qr
  have lf : (nz (fnL p ys inn)).length = inn := by rw [nz_len]; exact fo.1
  generalize nz (fnL p ys inn) = L at *
  generalize pcol p inn s ys 0 = x at *
  generalize pcol p inn s ys 1 = y at *
  generalize pcol p inn s ys 2 = z at *
  rw [← show cut L 0 inn = L from cut_all lf.symm] at qr
  have lf2 : inn ≤ L.length := by omega
  refine tc0 env profile_Quick_s (by rfl) ?_
  dsimp only [profile_Quick_c, encP]
  repeat' (first
    | ((with_reducible refine TDr.any ?_); refine TDr.callN env (by first | rfl | assumption) (by rfl) (by rfl) ?_ (fr) (by rfl) (by rfl) ?_)
    | ((with_reducible refine TDr.any ?_); refine TDr.callN env (by first | rfl | assumption) (by rfl) (by rfl) ?_ (qr) (by rfl) (by rfl) ?_)
    | refine GZp_i_2i_L2iJ ?_ ?_ ?_ ?_ ?_ ?_ ?_ ?_
    | with_reducible first | exact BzZq.mk | refine Tw.ret ?_ | refine ImZq.i fun h => ?_ | refine IkZq.i fun hk => ?_)
  exact ⟨rfl, rfl, rfl⟩
theorem forward_y (p : Prf) (inn s : Nat) (ys : List Nat) (w : PrfW p) (h0 : prfE p = 0) (h : PrfOk p inn s) (hy : ys.length = inn ∧ ∀ i, i < inn → ys.getD i 0 ≤ 255) :
    TC R Try.prog profile_Forward_f [.agg (encP p), .lst Ei (nz ys)] [] (fun v X => v = .tup [.agg [.int .i64 (pcol p inn s ys 0), .int .i64 (pcol p inn s ys 1), .int .i64 (pcol p inn s ys 2)], .int .i64 0] ∧ X = []) := by
  have pc := prfCheck_c p w
  have gi := h.g.i1
  have lz : (nz ys).length = inn := by rw [nz_len]; exact hy.1
  have tn := tones_c (nz ys) p.inks.length (by unfold Due; omega)
  rw [tonesE_ok.2 ⟨by rw [lz, h.il], fun i hi => by
    rw [nz_get]
    have := hy.2 i (by omega)
    omega⟩] at tn
  rw [h0] at pc
  have qc := pquick_c p inn s ys h hy
  have hil := h.il
  refine tc0 env profile_Forward_s (by rfl) ?_
  dsimp only [profile_Forward_c, encP]
  repeat' (first
    | ((with_reducible refine TOps.any ?_); refine TOps.callV env (by rfl) (by rfl) (by rfl) (pc) ?_)
    | ((with_reducible refine TOps.any ?_); refine TOps.callV env (by rfl) (by rfl) (by rfl) (tn) ?_)
    | ((with_reducible refine TOps.any ?_); refine TOps.callE env (by rfl) (by rfl) (by rfl) ?_ (qc) (by rfl) ?_)
    | refine GZp_i_2i_L2iJ ?_ ?_ ?_ ?_ ?_ ?_ ?_ ?_
    | with_reducible first | exact BzZq.mk | refine Tw.ret ?_ | refine ImZq.i fun h => ?_ | refine IkZq.i fun hk => ?_)
  exact ⟨rfl, rfl, rfl⟩
end Go.Proofs.Ytogbkhopanaoiaa
