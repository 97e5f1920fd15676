/- A call that is handed rows in the midst, in the callee's own order, and makes rows. -/
import Derived.Test.YtbaepacihkgalaaPrsQ
namespace Go.Proofs.Ytbaepacihkgalaa
open Go Go.Lite
set_option linter.unusedVariables false
set_option linter.unusedSimpArgs false
set_option maxRecDepth 100000
set_option maxHeartbeats 4000000

theorem tset_mid : ∀ (X B C D : TH A), X.length = B.length → tsetRows (C ++ B ++ D) (List.range' C.length X.length) X = C ++ X ++ D
  | [], [], C, D, _ => by simp [tsetRows]
  | [], _ :: _, _, _, h => by simp at h
  | _ :: _, [], _, _, h => by simp at h
  | x :: X, b :: B, C, D, h => by
    have ih := tset_mid X B (C ++ [x]) D (by simpa using h)
    rw [List.length_cons, List.range'_succ, tsetRows]
    have e : (C ++ b :: B ++ D).set C.length x = (C ++ [x]) ++ B ++ D := by
      rw [List.append_assoc, List.set_append_right _ _ (Nat.le_refl _), Nat.sub_self]
      simp
    rw [e, show C.length + 1 = (C ++ [x]).length by simp, ih, List.append_assoc C [x] X]; rfl
theorem gOf_new {b m n : Nat} : gOf (List.range' b m) n = fun j => if j < m then b + j else n + (j - m) := by
  funext j
  by_cases h : j < m
  · rw [gOf_sh h, if_pos h]
  · rw [if_neg h]
    unfold gOf
    rw [List.getElem?_eq_none (by simp; omega), List.length_range']
theorem callM {τ : TT} {fl : Nat → Bool} {N : Dim} (E : Env A R Try.prog τ fl) (b m : Nat) {s : SO} {r : List SO} {Q : TF A → TH A → Prop} {F : TF A} {B H : TH A} {f : Nat} {al as0 : List (TV A)} {H0 X1 Z Y : TH A} {v0 v : TV A} (hc : TC R Try.prog f as0 H0 (fun v X => v = v0 ∧ X = X1 ++ Z)) (hB : trenH (fun j => b + j) H0 = B) (hY : trenH (fun j => b + j) X1 = Y)
    (hm : H0.length = m) (hH : (H.drop b).take m = B) (hb : Nat.ble (b + m) H.length = true) (h1 : X1.length = m) (ta : tltL m as0 = true) (t0 : tltH m H0 = true) (t1 : tltH m X1 = true) (tz : tltH 0 Z = true) (hg : tgate F s.g = true) (hs : tcall F s = some (f, al)) (ha : trenL (fun j => b + j) as0 = al) (hx : tren (fun j => if j < m then b + j else H.length + (j - m)) v0 = v)
    (q : TOps R Try.prog N r Q (tlput s.dst v F) (H.take b ++ Y ++ H.drop (b + m) ++ Z)) : TOps R Try.prog N (s :: r) Q F H := by
  subst hm
  have hb' : b + H0.length ≤ H.length := by simpa using hb
  have lY : Y.length = H0.length := by rw [← hY, trenH_len, h1]
  have lt : (H.take b).length = b := by rw [List.length_take]; omega
  have lB : B.length = H0.length := by rw [← hB, trenH_len]
  have hH2 : H = H.take b ++ B ++ H.drop (b + H0.length) := by
    rw [← hH, List.append_assoc, ← List.drop_drop, List.take_append_drop, List.take_append_drop]
  have cg : ∀ j, j < H0.length → gOf (List.range' b H0.length) H.length j = b + j := fun j h => gOf_sh h
  have c0 : ∀ j, j < 0 → gOf (List.range' b H0.length) H.length j = id j := fun j h => absurd h (Nat.not_lt_zero j)
  have zi : trenH (gOf (List.range' b H0.length) H.length) Z = Z := trenH_lt (m := 0) (fun j h => absurd h (Nat.not_lt_zero j)) Z tz
  refine .callHE E (List.range' b H0.length) hc hg hs (nodupB_of List.nodup_range') (List.all_eq_true.2 fun x hx => by have := List.mem_range'_1.1 hx; simp only [Nat.blt_eq]; omega) (by rw [List.length_range']) (by rw [trenL_cg cg as0 ta]; exact ha) (handOk_sh fun j x hj => by
    rw [trenH_cg cg H0 t0, hB] at hj
    rw [hH2, List.append_assoc, List.getElem?_append_right (by omega), lt, Nat.add_sub_cancel_left]
    rw [List.getElem?_append_left (by rcases Nat.lt_or_ge j B.length with h | h; exact h; rw [List.getElem?_eq_none h] at hj; cases hj)]
    exact hj) ?_
  rw [gOf_new, hx, ← gOf_new, List.length_range', List.take_left' h1, List.drop_left' h1, zi, trenH_cg cg X1 t1, hY]
  have z := tset_mid Y B (H.take b) (H.drop (b + H0.length)) (by omega)
  rw [lt, lY, ← hH2] at z
  rw [z]
  exact q
end Go.Proofs.Ytbaepacihkgalaa
