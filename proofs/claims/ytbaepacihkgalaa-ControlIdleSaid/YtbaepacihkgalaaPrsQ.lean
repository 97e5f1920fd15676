/- A drawn call that is handed the last rows, in the callee's own order, and makes rows behind them. -/
import Derived.Test.YtbaepacihkgalaaPrsE
import Derived.Test.YtbaepacihkgalaaGo
import Derived.Test.YtbaepacihkgalaaFst
namespace Go.Proofs.Ytbaepacihkgalaa
open Go Go.Lite
set_option linter.unusedVariables false
set_option linter.unusedSimpArgs false
set_option maxRecDepth 100000
set_option maxHeartbeats 4000000
-- @simp rdi rd6i rdLiJ

theorem row_ok {Z most : Int} {l : List Int} (h : rowE Z most l = 0) : (l.length : Int) = Z ∧ ∀ z, z < l.length → 0 ≤ l.getD z 0 ∧ l.getD z 0 ≤ most := by
  unfold rowE at h
  split at h
  · omega
  · refine ⟨by omega, fun z hz => ?_⟩
    have := fstE_zero.1 h z hz
    split at this
    · omega
    · omega
theorem tbl_ok {l : List (List Int)} {u Z most : Int} (h : tblE l u Z most = 0) : (l.length : Int) = u ∧ ∀ i, i < l.length → rowE Z most (l.getD i []) = 0 := by
  unfold tblE at h
  split at h
  · omega
  · exact ⟨by omega, fun i hi => fstE_zero.1 h i hi⟩
theorem chk_ok {Z mr rg tol : Int} {tg : List Int} {ks ld : List (List Int)} (h : chkE Z mr rg tol tg ks ld = 0) : ((Z.toNat : Int) = Z) ∧ SuOk ⟨Z.toNat, mr, rg, tol, tg, ks, ld⟩ tg.length := by
  unfold chkE at h
  split at h
  · omega
  rename_i h1
  split at h
  · omega
  rename_i h2
  split at h
  · omega
  rename_i h3
  split at h
  · omega
  rename_i h4
  split at h
  · contradiction
  rename_i h5
  have k := tbl_ok (Decidable.not_not.1 h5)
  have l := tbl_ok h
  have t := fstE_zero.1 (Decidable.not_not.1 h4)
  refine ⟨by omega, ⟨by omega, by dsimp only; omega, by dsimp only; omega, by dsimp only; omega, by dsimp only; omega, rfl, by dsimp only; omega, by dsimp only; omega, fun i hi => ?_, fun i hi => ?_, fun i hi => ?_⟩⟩
  · have := t i hi
    split at this
    · omega
    · dsimp only; omega
  · have r := row_ok (k.2 i (by omega))
    exact ⟨by dsimp only; omega, fun z hz => r.2 z (by dsimp only at hz; omega)⟩
  · have r := row_ok (l.2 i (by omega))
    exact ⟨by dsimp only; omega, fun z hz => r.2 z (by dsimp only at hz; omega)⟩
theorem newBad_c (Z mr rg tol : Int) (tg : List Int) (ks ld : List (List Int)) (h0 : Due (tg.length ≤ 9223372036854775807)) (hk : Due (ks.length ≤ 9223372036854775807)) (hl : Due (ld.length ≤ 9223372036854775807)) (hkr : ∀ i, i < ks.length → (ks.getD i []).length ≤ 9223372036854775807) (hlr : ∀ i, i < ld.length → (ld.getD i []).length ≤ 9223372036854775807) (hc : chkE Z mr rg tol tg ks ld ≠ 0) :
    TC R Try.prog press_New_f [.agg [.int .i64 Z, .int .i64 mr, .int .i64 rg, .int .i64 tol, .lst Ei tg, .lst ELiJ ks, .lst ELiJ ld]] [] (fun v X => v = .tup [.nilp, .int .i64 (chkE Z mr rg tol tg ks ld)] ∧ X = []) := by
  have pc := pcheck_c Z mr rg tol tg ks ld h0 hk hl hkr hlr
  generalize chkE Z mr rg tol tg ks ld = q at *
  refine tc0 env press_New_s (by rfl) ?_
  dsimp only [press_New_c]
  repeat' (first
    | ((with_reducible refine TOps.any ?_); refine TOps.callV env (by rfl) (by rfl) (by rfl) (pc) ?_)
    | refine GZp_i_6i_LiJ ?_ ?_ ?_ ?_ ?_ ?_ ?_ ?_
    | with_reducible first | exact BzZq.mk | refine Tw.ret ?_ | refine ImZq.i fun h => ?_ | refine IkZq.i fun hk => ?_)
  exact ⟨rfl, rfl, rfl⟩
end Go.Proofs.Ytbaepacihkgalaa
namespace Go.Proofs.Ytbaepacihkgalaa
open Go Go.Lite
set_option linter.unusedVariables false
set_option linter.unusedSimpArgs false
set_option maxRecDepth 100000
set_option maxHeartbeats 4000000

def unsB (Z b : Nat) (us : Nat → Un) : Nat → Nat → List (TV A)
  | 0, _ => []
  | k + 1, i => unC Z (b + (2 + 2 * i)) (us i) ++ unsB Z b us k (i + 1)
def prD (b : Nat) (S : Su) (u : Nat) (p : Ps) : List (TV A) := [.int .i64 p.n, .int .i64 p.s, .int .i64 p.j, .int .i64 S.Z, .int .i64 S.mr, .int .i64 S.rg, .int .i64 S.tol, .lst Ei S.tg, .lst ELiJ S.ks, .lst ELiJ S.ld, .sl 7 (b + 1) 0 u]
def prB (b : Nat) (S : Su) (u : Nat) (p : Ps) : List (Option (TRow A)) := some (.cells (prD b S u p)) :: some (.cells (unsB S.Z b p.us u 0)) :: unR p.us u 0
theorem trenL_app {g : Nat → Nat} : ∀ a b : List (TV A), trenL g (a ++ b) = trenL g a ++ trenL g b
  | [], _ => rfl
  | c :: a, b => by rw [List.cons_append, trenL, trenL_app a b]; rfl
theorem unsB_sh {Z b : Nat} {us : Nat → Un} : ∀ k i, trenL (fun j => b + j) (unsC Z us k i) = unsB Z b us k i
  | 0, _ => rfl
  | k + 1, i => by rw [unsC, unsB, trenL_app, unsB_sh k (i + 1)]; rfl
theorem unR_sh {g : Nat → Nat} {us : Nat → Un} : ∀ k i, trenH g (unR us k i) = unR us k i
  | 0, _ => rfl
  | k + 1, i => by
    show _ :: _ :: trenH g (unR us k (i + 1)) = _
    rw [unR_sh k (i + 1)]; rfl
theorem prB_sh {b : Nat} {S : Su} {u : Nat} {p : Ps} : trenH (fun j => b + j) (prR S u p) = prB b S u p := by
  show some (.cells (trenL _ (prC S u p))) :: some (.cells (trenL _ (unsC S.Z p.us u 0))) :: trenH _ (unR p.us u 0) = _
  rw [unsB_sh, unR_sh]
  rfl
end Go.Proofs.Ytbaepacihkgalaa
namespace Go.Proofs.Ytbaepacihkgalaa
open Go Go.Lite
set_option linter.unusedVariables false
set_option linter.unusedSimpArgs false
set_option maxRecDepth 100000
set_option maxHeartbeats 4000000

theorem callHFK {τ : TT} {fl : Nat → Bool} (E : Env A R Try.prog τ fl) (k0 : Nat) {s : SO} {r : List SO} {F : TF A} {H : TH A} {K : List DA → TF A → TH A → Prop} {f : Nat} {al as0 : List (TV A)} {H0 X0 Y : TH A} {v0 v : TV A} {ws : List (Nat × Option (TRow A))} {ρ : List Nat} (hc : TC R Try.prog f as0 H0 (fun v X => v = v0 ∧ X = X0)) (hρ : ρ = List.range' k0 H0.length)
    (hg : tgate F s.g = true) (hs : tcallD F s = some (f, al)) (hn : nodupB ρ = true) (hlt : ρ.all (Nat.blt · H.length) = true) (hl0 : H0.length = ρ.length) (hl1 : Nat.ble ρ.length X0.length = true) (ha : ∀ n, embC R (trenL (gOf ρ n) as0) = embC R al) (hrows : ∀ n, handOk (gOf ρ n) H ρ H0)
    (hx : tren (gOf ρ H.length) v0 = v) (hY : trenH (gOf ρ H.length) X0 = Y) (hws : ρ.zip (Y.take ρ.length) ++ twsOf H.length (Y.drop ρ.length) = ws)
    (k : TDr R Try.prog r (tlput s.dst v F) (tapply (H ++ List.replicate (X0.length - ρ.length) none) ws) (fun cs => K (⟨s.dst, emb R v, embW R ws, guardSlot s.g ++ slotsOf s.op, ρ, (twsOf H.length (Y.drop ρ.length)).map (·.1)⟩ :: cs))) : TDr R Try.prog (s :: r) F H K := by
  subst hx; subst hY; subst hws
  obtain ⟨g, args, tys, cap, hop, hgv, hu, hargs⟩ := tcallD_ok (R := R) hs
  have hl : ∀ h ∈ ρ, h < H.length := fun h hh => by simpa using List.all_eq_true.1 hlt h hh
  have hl1 : ρ.length ≤ X0.length := by simpa using hl1
  have hc2 : LC Try.prog f (embC R as0) (embH R H0) fun x G => x = emb R v0 ∧ G = embH R X0 := LC.mono hc fun x G ⟨y, X, ⟨q1, q2⟩, e1, e2⟩ => by subst q1 q2; exact ⟨e1, e2⟩
  have hf := SFact.handF (P := Try.prog) (X0 := embH R X0) ρ H.length (tgate_ok hg) hop hgv hu (nodupB_ok hn) (by rw [embH_length]; exact hl0) (by rw [embH_length]; exact hl1) hl (fun h hh => by rw [embH_length]; exact hl h hh)
    (fun n => by rw [hargs, ← ha n, trenL_emb, renL_eq]) (fun n j h cs hj hcs => by
      rw [embH_get] at hcs ⊢
      cases hx : H0[j]? with
      | none => rw [hx] at hcs; cases hcs
      | some x =>
        rw [hx] at hcs
        cases x with
        | none => cases hcs
        | some x =>
          obtain rfl := Option.some.inj (Option.some.inj hcs)
          rw [handOk_get (hrows n) j h x hj hx, Option.map_some, trenR_emb R E.ok]
          rfl) hc2 (fun y G e => e)
  have eY : embH R (trenH (gOf ρ H.length) X0) = (embH R X0).map (renR (gOf ρ H.length)) := trenH_emb R E.ok _ _
  have e1 : embW R (ρ.zip ((trenH (gOf ρ H.length) X0).take ρ.length) ++ twsOf H.length ((trenH (gOf ρ H.length) X0).drop ρ.length)) = ρ.zip (((embH R X0).take ρ.length).map (renR (gOf ρ H.length))) ++ wsOf H.length (((embH R X0).drop ρ.length).map (renR (gOf ρ H.length))) := by
    rw [embW_app, embW_zip, twsOf_emb, embH_take, embH_drop, eY, List.map_take, List.map_drop]
  have e2 : (twsOf H.length ((trenH (gOf ρ H.length) X0).drop ρ.length)).map (·.1) = (wsOf H.length (((embH R X0).drop ρ.length).map (renR (gOf ρ H.length)))).map (·.1) := by
    rw [← keys_embW (R := R), twsOf_emb, embH_drop, eY, List.map_drop]
  have hkeys : ∀ x ∈ (twsOf H.length ((trenH (gOf ρ H.length) X0).drop ρ.length)).map (·.1), H.length ≤ x ∧ x < H.length + (X0.length - ρ.length) := fun x hx => by
    rw [e2, keys_wsOf] at hx
    simpa [embH_length] using hx
  refine TDr.cons (e := X0.length - ρ.length) (c := ⟨s.dst, emb R (tren (gOf ρ H.length) v0), embW R (ρ.zip ((trenH (gOf ρ H.length) X0).take ρ.length) ++ twsOf H.length ((trenH (gOf ρ H.length) X0).drop ρ.length)), guardSlot s.g ++ slotsOf s.op, ρ, (twsOf H.length ((trenH (gOf ρ H.length) X0).drop ρ.length)).map (·.1)⟩)
    (hf.more rfl (by rw [tren_emb]) e1 e2 (fun t ht => ht) (fun q hq => hq)) rfl rfl hlt ?_ hkeys k
  refine List.all_eq_true.2 fun x hx => ?_
  simp only [List.map_append, List.mem_append] at hx
  have : x < H.length + (X0.length - ρ.length) := by
    rcases hx with hx | hx
    · obtain ⟨p, hp, rfl⟩ := List.mem_map.1 hx
      have := hl _ (List.of_mem_zip hp).1
      omega
    · exact (hkeys x hx).2
  simpa using this
end Go.Proofs.Ytbaepacihkgalaa
namespace Go.Proofs.Ytbaepacihkgalaa
open Go Go.Lite
set_option linter.unusedVariables false
set_option linter.unusedSimpArgs false
set_option maxRecDepth 100000
set_option maxHeartbeats 4000000

mutual
theorem tren_cg {g g' : Nat → Nat} {m : Nat} (hg : ∀ j, j < m → g j = g' j) : ∀ v : TV A, tltB m v = true → tren g v = tren g' v
  | .ptr h o, hv => by rw [tren, tren, hg h (by simpa [tltB] using hv)]
  | .ptrE _ h _ _, hv => by rw [tren, tren, hg h (by simpa [tltB] using hv)]
  | .sl _ h _ _, hv => by rw [tren, tren, hg h (by simpa [tltB] using hv)]
  | .sla _ h _ _, hv => by rw [tren, tren, hg h (by simpa [tltB] using hv)]
  | .fn _ cs, hv => by rw [tren, tren, trenL_cg hg cs hv]
  | .agg cs, hv => by rw [tren, tren, trenL_cg hg cs hv]
  | .tup cs, hv => by rw [tren, tren, trenL_cg hg cs hv]
  | .opt _ v, hv => by rw [tren, tren, tren_cg hg v hv]
  | .dead, _ => rfl
  | .und, _ => rfl
  | .bool _, _ => rfl
  | .int _ _, _ => rfl
  | .str _, _ => rfl
  | .nilp, _ => rfl
  | .nils, _ => rfl
  | .nilf, _ => rfl
  | .yld _, _ => rfl
  | .pel _, _ => rfl
  | .lst _ _, _ => rfl
theorem trenL_cg {g g' : Nat → Nat} {m : Nat} (hg : ∀ j, j < m → g j = g' j) : ∀ cs : List (TV A), tltL m cs = true → trenL g cs = trenL g' cs
  | [], _ => rfl
  | c :: r, h => by
    have h := Bool.and_eq_true_iff.1 h
    rw [trenL, trenL, tren_cg hg c h.1, trenL_cg hg r h.2]
end
theorem trenH_cg {g g' : Nat → Nat} {m : Nat} (hg : ∀ j, j < m → g j = g' j) : ∀ H : TH A, tltH m H = true → trenH g H = trenH g' H
  | [], _ => rfl
  | none :: H, h => by rw [trenH, trenH, trenH_cg hg H h]; rfl
  | some (.cells cs) :: H, h => by
    have h := Bool.and_eq_true_iff.1 h
    rw [trenH, trenH, trenH_cg hg H h.2, trenR, trenR, trenL_cg hg cs h.1]
  | some (.arr _ _) :: H, h => by rw [trenH, trenH, trenH_cg hg H h]; rfl
theorem handOk_sh {g : Nat → Nat} {H : TH A} : ∀ {H0 : TH A} {k : Nat}, (∀ j (x : Option (TRow A)), (trenH g H0)[j]? = some x → H[k + j]? = some x) → handOk g H (List.range' k H0.length) H0
  | [], k, _ => trivial
  | none :: H0, k, h => by
    rw [List.length_cons, List.range'_succ]
    exact handOk_sh (k := k + 1) (fun j x hj => by have := h (j + 1) x (by rw [trenH]; simpa using hj); rwa [← Nat.add_assoc, Nat.add_right_comm] at this)
  | some y :: H0, k, h => by
    rw [List.length_cons, List.range'_succ]
    refine ⟨?_, handOk_sh (k := k + 1) (fun j x hj => by have := h (j + 1) x (by rw [trenH]; simpa using hj); rwa [← Nat.add_assoc, Nat.add_right_comm] at this)⟩
    rw [nth_eq]
    exact h 0 _ rfl
theorem trenH_len {g : Nat → Nat} : ∀ H : TH A, (trenH g H).length = H.length
  | [] => rfl
  | _ :: H => by rw [trenH, List.length_cons, trenH_len H, List.length_cons]
theorem tapply_app : ∀ (ws vs : List (Nat × Option (TRow A))) (H : TH A), tapply H (ws ++ vs) = tapply (tapply H ws) vs
  | [], _, _ => rfl
  | (h, r) :: ws, vs, H => by rw [List.cons_append, tapply, tapply]; exact tapply_app ws vs _
theorem tapply_zip : ∀ (X B C D : TH A), X.length = B.length → tapply (C ++ B ++ D) ((List.range' C.length X.length).zip X) = C ++ X ++ D
  | [], [], C, D, _ => by simp [tapply]
  | [], _ :: _, _, _, h => by simp at h
  | _ :: _, [], _, _, h => by simp at h
  | x :: X, b :: B, C, D, h => by
    have ih := tapply_zip X B (C ++ [x]) D (by simpa using h)
    rw [List.length_cons, List.range'_succ, List.zip_cons_cons, tapply]
    have e : (C ++ b :: B ++ D).set C.length x = (C ++ [x]) ++ B ++ D := by
      rw [List.append_assoc, List.set_append_right _ _ (Nat.le_refl _), Nat.sub_self]
      simp
    rw [e, show C.length + 1 = (C ++ [x]).length by simp, ih, List.append_assoc C [x] X]; rfl
theorem gOf_sh {b m n j : Nat} (h : j < m) : gOf (List.range' b m) n j = b + j := by
  unfold gOf
  rw [List.getElem?_range' h]
  simp
theorem gOf_all {b m : Nat} : gOf (List.range' b m) (b + m) = fun j => b + j := by
  funext j
  by_cases h : j < m
  · exact gOf_sh h
  · unfold gOf
    rw [List.getElem?_eq_none (by simp; omega), List.length_range']
    show b + m + (j - m) = b + j
    omega
theorem callQ {τ : TT} {fl : Nat → Bool} (E : Env A R Try.prog τ fl) (b m : Nat) {s : SO} {r : List SO} {F : TF A} {C B H : TH A} {K : List DA → TF A → TH A → Prop} {f : Nat} {al as0 : List (TV A)} {H0 X0 Y : TH A} {v0 v : TV A} (hc : TC R Try.prog f as0 H0 (fun v X => v = v0 ∧ X = X0)) (hB : trenH (fun j => b + j) H0 = B) (hY : trenH (fun j => b + j) X0 = Y)
    (hH : H = C ++ B) (hb : C.length = b) (hm : H0.length = m) (hg : tgate F s.g = true) (hs : tcallD F s = some (f, al)) (hl1 : Nat.ble m X0.length = true) (ta : tltL m as0 = true) (t0 : tltH m H0 = true) (ha : embC R (trenL (fun j => b + j) as0) = embC R al)
    (hx : tren (fun j => b + j) v0 = v)
    (k : TDr R Try.prog r (tlput s.dst v F) (C ++ Y) (fun cs => K (⟨s.dst, emb R v, embW R ((List.range' b m).zip (Y.take m) ++ twsOf (b + m) (Y.drop m)), guardSlot s.g ++ slotsOf s.op, List.range' b m, (twsOf (b + m) (Y.drop m)).map (·.1)⟩ :: cs))) : TDr R Try.prog (s :: r) F H K := by
  subst hm
  have lB : B.length = H0.length := by rw [← hB, trenH_len]
  have lH : H.length = b + H0.length := by rw [hH, List.length_append, hb, lB]
  have lX : H0.length ≤ X0.length := by simpa using hl1
  have lY : Y.length = X0.length := by rw [← hY, trenH_len]
  have cg : ∀ n j, j < H0.length → gOf (List.range' b H0.length) n j = b + j := fun n j h => gOf_sh h
  refine callHFK (v := v) (Y := Y) E b hc rfl hg hs (nodupB_of List.nodup_range') (List.all_eq_true.2 fun x hx => by have := List.mem_range'_1.1 hx; simp only [Nat.blt_eq]; omega) (by rw [List.length_range']) (by rw [List.length_range']; exact hl1) (fun n => by rw [trenL_cg (cg n) as0 ta]; exact ha) (fun n => handOk_sh fun j x hj => by
    rw [trenH_cg (cg n) H0 t0, hB] at hj
    rw [hH, ← hb, List.getElem?_append_right (by omega), Nat.add_sub_cancel_left]; exact hj) (by rw [lH, gOf_all]; exact hx) (by rw [lH, gOf_all]; exact hY) rfl ?_
  rw [List.length_range', lH]
  have e : tapply (H ++ List.replicate (X0.length - H0.length) none) ((List.range' b H0.length).zip (Y.take H0.length) ++ twsOf (b + H0.length) (Y.drop H0.length)) = C ++ Y := by
    rw [tapply_app, hH]
    have lt : (Y.take H0.length).length = H0.length := by rw [List.length_take]; omega
    have z := tapply_zip (Y.take H0.length) B C (List.replicate (X0.length - H0.length) none) (by omega)
    rw [hb, lt] at z
    rw [z]
    have a := twsOf_apply (Y.drop H0.length) (C ++ Y.take H0.length)
    rw [List.length_drop, lY, List.length_append, hb, lt] at a
    rw [a, List.append_assoc, List.take_append_drop]
  rw [e]
  exact k
theorem callQ2 {τ : TT} {fl : Nat → Bool} (E : Env A R Try.prog τ fl) (b m : Nat) {s : SO} {r : List SO} {F : TF A} {B H : TH A} {K : List DA → TF A → TH A → Prop} {f : Nat} {al as0 : List (TV A)} {H0 X0 Y : TH A} {v0 v : TV A} (hc : TC R Try.prog f as0 H0 (fun v X => v = v0 ∧ X = X0)) (hB : trenH (fun j => b + j) H0 = B) (hY : trenH (fun j => b + j) X0 = Y)
    (hH : H.drop b = B) (hb : Nat.ble b H.length = true) (hm : H0.length = m) (hg : tgate F s.g = true) (hs : tcallD F s = some (f, al)) (hl1 : Nat.ble m X0.length = true) (ta : tltL m as0 = true) (t0 : tltH m H0 = true) (ha : embC R (trenL (fun j => b + j) as0) = embC R al)
    (hx : tren (fun j => b + j) v0 = v)
    (k : TDr R Try.prog r (tlput s.dst v F) (H.take b ++ Y) (fun cs => K (⟨s.dst, emb R v, embW R ((List.range' b m).zip (Y.take m) ++ twsOf (b + m) (Y.drop m)), guardSlot s.g ++ slotsOf s.op, List.range' b m, (twsOf (b + m) (Y.drop m)).map (·.1)⟩ :: cs))) : TDr R Try.prog (s :: r) F H K :=
  have hb' : b ≤ H.length := by simpa using hb
  callQ E b m hc hB hY (C := H.take b) (by rw [← hH, List.take_append_drop]) (by rw [List.length_take]; omega) hm hg hs hl1 ta t0 ha hx k
end Go.Proofs.Ytbaepacihkgalaa
