/- Presses: without events densities come to rest. -/
import Derived.Test.YtihminfnphichaaPrsP
namespace Go.Proofs.Ytihminfnphichaa
open Go Go.Lite
set_option linter.unusedVariables false
set_option linter.unusedSimpArgs false
set_option maxRecDepth 100000
set_option maxHeartbeats 4000000

theorem nkU_ks {a : Un} {ld : List Int} : ∀ n, (nkU a ld n).ks = a.ks ∧ (nkU a ld n).gn = a.gn
  | 0 => ⟨rfl, rfl⟩
  | n + 1 => nkU_ks n
theorem nkU_len {a : Un} {ld : List Int} : ∀ n, (nkU a ld n).fl.length = a.fl.length
  | 0 => rfl
  | n + 1 => by rw [nkU, inkU, List.length_set]; exact nkU_len n
theorem nkU_fl {a : Un} {ld : List Int} {z : Nat} (hz : z < a.fl.length) : ∀ n, (nkU a ld n).fl.getD z 0 = if z < n then inkV (a.fl.getD z 0) (a.ks.getD z 0) a.gn (ld.getD z 0) else a.fl.getD z 0
  | 0 => rfl
  | n + 1 => by
    have ih := nkU_fl (ld := ld) hz n
    rw [nkU, inkU]
    show ((nkU a ld n).fl.set n _).getD z 0 = _
    by_cases e : z = n
    · subst e
      rw [getD_set_eq (by rw [nkU_len]; exact hz), if_pos (by omega), ih, if_neg (by omega), (nkU_ks z).1, (nkU_ks z).2]
    · rw [getD_set_ne (by omega), ih]
      by_cases h : z < n
      · rw [if_pos h, if_pos (by omega)]
      · rw [if_neg h, if_neg (by omega)]
/-- The density of a zone behind k sheets. -/
def stD (K L : Int) : Nat → Int
  | 0 => 0
  | k + 1 => inkV (stD K L k) K 8 L
/-- Without events. -/
theorem runP_st {S : Su} {u : Nat} (so : SuOk S u) {i z : Nat} (hi : i < u) (hz : z < S.Z) : ∀ k, k ≤ 4000 →
    let p := (runP S u [] k).1
    (p.us i).ks = S.ks.getD i [] ∧ (p.us i).gn = 8 ∧ (p.us i).fl.getD z 0 = stD ((S.ks.getD i []).getD z 0) ((S.ld.getD i []).getD z 0) k
  | 0, _ => by
    refine ⟨rfl, rfl, ?_⟩
    show (List.replicate S.Z (0 : Int)).getD z 0 = 0
    rw [List.getD_eq_getElem?_getD, List.getElem?_replicate, if_pos hz]; rfl
  | k + 1, hk => by
    have ih := runP_st so hi hz k (by omega)
    have ok := (runP_ok so (l := []) (fun v hv => by cases hv) k (by omega)).1
    obtain ⟨p, ep⟩ : ∃ p, p = (runP S u [] k).1 := ⟨_, rfl⟩
    have e : (runP S u [] (k + 1)).1 = fedP S u p := by
      rw [ep]
      have : (runP S u [] k).2 = [] := by
        clear ih ok ep hk
        induction k with
        | zero => rfl
        | succ k ih => rw [runP]; show (runE _ _ (runP S u [] k).2 _).2 = []; rw [ih]; rfl
      rw [runP, this]; rfl
    rw [← ep] at ih ok
    dsimp only at ih ⊢
    rw [e]
    have e2 : (fedP S u p).us i = dnU S p.us i := by show fe0 S p.us u i = _; unfold fe0; rw [if_pos hi]
    have oi := ok.un i hi
    rw [e2]
    unfold dnU
    refine ⟨(nkU_ks _).1.trans ih.1, (nkU_ks _).2.trans ih.2.1, ?_⟩
    rw [nkU_fl (by show z < (p.us i).fl.length; rw [oi.fl]; exact hz), if_pos hz]
    show inkV ((p.us i).fl.getD z 0) ((p.us i).ks.getD z 0) (p.us i).gn _ = _
    rw [ih.1, ih.2.1, ih.2.2]
    rfl
end Go.Proofs.Ytihminfnphichaa
