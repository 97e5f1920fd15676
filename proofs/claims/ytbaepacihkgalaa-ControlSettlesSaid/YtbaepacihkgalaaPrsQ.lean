/- A drawn call that is handed the last rows, in the callee's own order, and makes rows behind them. -/
import Derived.Test.YtbaepacihkgalaaFst
import Derived.Test.YtbaepacihkgalaaPrsAA
namespace Go.Proofs.Ytbaepacihkgalaa
open Go Go.Lite
set_option linter.unusedVariables false
set_option linter.unusedSimpArgs false
set_option maxRecDepth 100000
set_option maxHeartbeats 4000000

mutual
theorem tren_cg {g g' : Nat → Nat} {m : Nat} (hg : ∀ j, j < m → g j = g' j) : ∀ v : TV A, tltB m v = true → tren g v = tren g' v
  | .ptr h o, hv => by rw [tren, tren, hg h (by simpa [tltB] using hv)]
  | .ptrE _ h _ _, hv => by rw [tren, tren, hg h (by simpa [tltB] using hv)]
  | .sl _ h _ _, hv => by rw [tren, tren, hg h (by simpa [tltB] using hv)]
  | .sla _ h _ _, hv => by rw [tren, tren, hg h (by simpa [tltB] using hv)]
  | .fn _ cs, hv => by rw [tren, tren, trenL_cg hg cs hv]
  | .agg cs, hv => by rw [tren, tren, trenL_cg hg cs hv]
  | .tup cs, hv => by rw [tren, tren, trenL_cg hg cs hv]
  | .opt _ v, hv => by rw [tren, tren, tren_cg hg v hv]
  | .dead, _ => rfl
  | .und, _ => rfl
  | .bool _, _ => rfl
  | .int _ _, _ => rfl
  | .str _, _ => rfl
  | .nilp, _ => rfl
  | .nils, _ => rfl
  | .nilf, _ => rfl
  | .yld _, _ => rfl
  | .pel _, _ => rfl
  | .lst _ _, _ => rfl
theorem trenL_cg {g g' : Nat → Nat} {m : Nat} (hg : ∀ j, j < m → g j = g' j) : ∀ cs : List (TV A), tltL m cs = true → trenL g cs = trenL g' cs
  | [], _ => rfl
  | c :: r, h => by
    have h := Bool.and_eq_true_iff.1 h
    rw [trenL, trenL, tren_cg hg c h.1, trenL_cg hg r h.2]
end
theorem trenH_cg {g g' : Nat → Nat} {m : Nat} (hg : ∀ j, j < m → g j = g' j) : ∀ H : TH A, tltH m H = true → trenH g H = trenH g' H
  | [], _ => rfl
  | none :: H, h => by rw [trenH, trenH, trenH_cg hg H h]; rfl
  | some (.cells cs) :: H, h => by
    have h := Bool.and_eq_true_iff.1 h
    rw [trenH, trenH, trenH_cg hg H h.2, trenR, trenR, trenL_cg hg cs h.1]
  | some (.arr _ _) :: H, h => by rw [trenH, trenH, trenH_cg hg H h]; rfl
theorem handOk_sh {g : Nat → Nat} {H : TH A} : ∀ {H0 : TH A} {k : Nat}, (∀ j (x : Option (TRow A)), (trenH g H0)[j]? = some x → H[k + j]? = some x) → handOk g H (List.range' k H0.length) H0
  | [], k, _ => trivial
  | none :: H0, k, h => by
    rw [List.length_cons, List.range'_succ]
    exact handOk_sh (k := k + 1) (fun j x hj => by have := h (j + 1) x (by rw [trenH]; simpa using hj); rwa [← Nat.add_assoc, Nat.add_right_comm] at this)
  | some y :: H0, k, h => by
    rw [List.length_cons, List.range'_succ]
    refine ⟨?_, handOk_sh (k := k + 1) (fun j x hj => by have := h (j + 1) x (by rw [trenH]; simpa using hj); rwa [← Nat.add_assoc, Nat.add_right_comm] at this)⟩
    rw [nth_eq]
    exact h 0 _ rfl
theorem trenH_len {g : Nat → Nat} : ∀ H : TH A, (trenH g H).length = H.length
  | [] => rfl
  | _ :: H => by rw [trenH, List.length_cons, trenH_len H, List.length_cons]
theorem tapply_app : ∀ (ws vs : List (Nat × Option (TRow A))) (H : TH A), tapply H (ws ++ vs) = tapply (tapply H ws) vs
  | [], _, _ => rfl
  | (h, r) :: ws, vs, H => by rw [List.cons_append, tapply, tapply]; exact tapply_app ws vs _
theorem tapply_zip : ∀ (X B C D : TH A), X.length = B.length → tapply (C ++ B ++ D) ((List.range' C.length X.length).zip X) = C ++ X ++ D
  | [], [], C, D, _ => by simp [tapply]
  | [], _ :: _, _, _, h => by simp at h
  | _ :: _, [], _, _, h => by simp at h
  | x :: X, b :: B, C, D, h => by
    have ih := tapply_zip X B (C ++ [x]) D (by simpa using h)
    rw [List.length_cons, List.range'_succ, List.zip_cons_cons, tapply]
    have e : (C ++ b :: B ++ D).set C.length x = (C ++ [x]) ++ B ++ D := by
      rw [List.append_assoc, List.set_append_right _ _ (Nat.le_refl _), Nat.sub_self]
      simp
    rw [e, show C.length + 1 = (C ++ [x]).length by simp, ih, List.append_assoc C [x] X]; rfl
theorem gOf_sh {b m n j : Nat} (h : j < m) : gOf (List.range' b m) n j = b + j := by
  unfold gOf
  rw [List.getElem?_range' h]
  simp
theorem gOf_all {b m : Nat} : gOf (List.range' b m) (b + m) = fun j => b + j := by
  funext j
  by_cases h : j < m
  · exact gOf_sh h
  · unfold gOf
    rw [List.getElem?_eq_none (by simp; omega), List.length_range']
    show b + m + (j - m) = b + j
    omega
theorem callQ {τ : TT} {fl : Nat → Bool} (E : Env A R Try.prog τ fl) (b m : Nat) {s : SO} {r : List SO} {F : TF A} {C B H : TH A} {K : List DA → TF A → TH A → Prop} {f : Nat} {al as0 : List (TV A)} {H0 X0 Y : TH A} {v0 v : TV A} (hc : TC R Try.prog f as0 H0 (fun v X => v = v0 ∧ X = X0)) (hB : trenH (fun j => b + j) H0 = B) (hY : trenH (fun j => b + j) X0 = Y)
    (hH : H = C ++ B) (hb : C.length = b) (hm : H0.length = m) (hg : tgate F s.g = true) (hs : tcallD F s = some (f, al)) (hl1 : Nat.ble m X0.length = true) (ta : tltL m as0 = true) (t0 : tltH m H0 = true) (ha : embC R (trenL (fun j => b + j) as0) = embC R al)
    (hx : tren (fun j => b + j) v0 = v)
    (k : TDr R Try.prog r (tlput s.dst v F) (C ++ Y) (fun cs => K (⟨s.dst, emb R v, embW R ((List.range' b m).zip (Y.take m) ++ twsOf (b + m) (Y.drop m)), guardSlot s.g ++ slotsOf s.op, List.range' b m, (twsOf (b + m) (Y.drop m)).map (·.1)⟩ :: cs))) : TDr R Try.prog (s :: r) F H K := by
  subst hm
  have lB : B.length = H0.length := by rw [← hB, trenH_len]
  have lH : H.length = b + H0.length := by rw [hH, List.length_append, hb, lB]
  have lX : H0.length ≤ X0.length := by simpa using hl1
  have lY : Y.length = X0.length := by rw [← hY, trenH_len]
  have cg : ∀ n j, j < H0.length → gOf (List.range' b H0.length) n j = b + j := fun n j h => gOf_sh h
  refine callHFK (v := v) (Y := Y) E b hc rfl hg hs (nodupB_of List.nodup_range') (List.all_eq_true.2 fun x hx => by have := List.mem_range'_1.1 hx; simp only [Nat.blt_eq]; omega) (by rw [List.length_range']) (by rw [List.length_range']; exact hl1) (fun n => by rw [trenL_cg (cg n) as0 ta]; exact ha) (fun n => handOk_sh fun j x hj => by
    rw [trenH_cg (cg n) H0 t0, hB] at hj
    rw [hH, ← hb, List.getElem?_append_right (by omega), Nat.add_sub_cancel_left]; exact hj) (by rw [lH, gOf_all]; exact hx) (by rw [lH, gOf_all]; exact hY) rfl ?_
  rw [List.length_range', lH]
  have e : tapply (H ++ List.replicate (X0.length - H0.length) none) ((List.range' b H0.length).zip (Y.take H0.length) ++ twsOf (b + H0.length) (Y.drop H0.length)) = C ++ Y := by
    rw [tapply_app, hH]
    have lt : (Y.take H0.length).length = H0.length := by rw [List.length_take]; omega
    have z := tapply_zip (Y.take H0.length) B C (List.replicate (X0.length - H0.length) none) (by omega)
    rw [hb, lt] at z
    rw [z]
    have a := twsOf_apply (Y.drop H0.length) (C ++ Y.take H0.length)
    rw [List.length_drop, lY, List.length_append, hb, lt] at a
    rw [a, List.append_assoc, List.take_append_drop]
  rw [e]
  exact k
theorem callQ2 {τ : TT} {fl : Nat → Bool} (E : Env A R Try.prog τ fl) (b m : Nat) {s : SO} {r : List SO} {F : TF A} {B H : TH A} {K : List DA → TF A → TH A → Prop} {f : Nat} {al as0 : List (TV A)} {H0 X0 Y : TH A} {v0 v : TV A} (hc : TC R Try.prog f as0 H0 (fun v X => v = v0 ∧ X = X0)) (hB : trenH (fun j => b + j) H0 = B) (hY : trenH (fun j => b + j) X0 = Y)
    (hH : H.drop b = B) (hb : Nat.ble b H.length = true) (hm : H0.length = m) (hg : tgate F s.g = true) (hs : tcallD F s = some (f, al)) (hl1 : Nat.ble m X0.length = true) (ta : tltL m as0 = true) (t0 : tltH m H0 = true) (ha : embC R (trenL (fun j => b + j) as0) = embC R al)
    (hx : tren (fun j => b + j) v0 = v)
    (k : TDr R Try.prog r (tlput s.dst v F) (H.take b ++ Y) (fun cs => K (⟨s.dst, emb R v, embW R ((List.range' b m).zip (Y.take m) ++ twsOf (b + m) (Y.drop m)), guardSlot s.g ++ slotsOf s.op, List.range' b m, (twsOf (b + m) (Y.drop m)).map (·.1)⟩ :: cs))) : TDr R Try.prog (s :: r) F H K :=
  have hb' : b ≤ H.length := by simpa using hb
  callQ E b m hc hB hY (C := H.take b) (by rw [← hH, List.take_append_drop]) (by rw [List.length_take]; omega) hm hg hs hl1 ta t0 ha hx k
end Go.Proofs.Ytbaepacihkgalaa
