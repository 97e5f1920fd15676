/- Presses: without events densities come to rest. -/
import Derived.Test.YtbaepacihkgalaaPrsP
namespace Go.Proofs.Ytbaepacihkgalaa
open Go Go.Lite
set_option linter.unusedVariables false
set_option linter.unusedSimpArgs false
set_option maxRecDepth 100000
set_option maxHeartbeats 4000000

theorem nkU_ks {a : Un} {ld : List Int} : ∀ n, (nkU a ld n).ks = a.ks ∧ (nkU a ld n).gn = a.gn
  | 0 => ⟨rfl, rfl⟩
  | n + 1 => nkU_ks n
theorem nkU_len {a : Un} {ld : List Int} : ∀ n, (nkU a ld n).fl.length = a.fl.length
  | 0 => rfl
  | n + 1 => by rw [nkU, inkU, List.length_set]; exact nkU_len n
theorem nkU_fl {a : Un} {ld : List Int} {z : Nat} (hz : z < a.fl.length) : ∀ n, (nkU a ld n).fl.getD z 0 = if z < n then inkV (a.fl.getD z 0) (a.ks.getD z 0) a.gn (ld.getD z 0) else a.fl.getD z 0
  | 0 => rfl
  | n + 1 => by
    have ih := nkU_fl (ld := ld) hz n
    rw [nkU, inkU]
    show ((nkU a ld n).fl.set n _).getD z 0 = _
    by_cases e : z = n
    · subst e
      rw [getD_set_eq (by rw [nkU_len]; exact hz), if_pos (by omega), ih, if_neg (by omega), (nkU_ks z).1, (nkU_ks z).2]
    · rw [getD_set_ne (by omega), ih]
      by_cases h : z < n
      · rw [if_pos h, if_pos (by omega)]
      · rw [if_neg h, if_neg (by omega)]
/-- The density of a zone behind k sheets. -/
def stD (K L : Int) : Nat → Int
  | 0 => 0
  | k + 1 => inkV (stD K L k) K 8 L
/-- A bound of the ink that is lacking. -/
def stB : Nat → Int
  | 0 => 16000
  | k + 1 => stB k - stB k / 8
theorem stD_gap {K L : Int} (hK : 0 ≤ K ∧ K ≤ 1000) (hL : 0 ≤ L ∧ L ≤ 8) : ∀ k, 0 ≤ 16 * K - stD K L k * (8 + L) / 8 ∧ 16 * K - stD K L k * (8 + L) / 8 ≤ stB k
  | 0 => by
    have : stD K L 0 = 0 := rfl
    have h2 : stB 0 = 16000 := rfl
    rw [this, h2]
    omega
  | k + 1 => by
    have ih := stD_gap hK hL k
    have e : stD K L (k + 1) = stD K L k + (2 * K * 8 - stD K L k * (8 + L) / 8) / 8 := rfl
    have e2 : stB (k + 1) = stB k - stB k / 8 := rfl
    rw [e, e2]
    generalize stD K L k = d at *
    generalize stB k = b at *
    rw [show 2 * K * 8 = 16 * K by omega]
    obtain ⟨g, hg⟩ : ∃ g, g = 16 * K - d * (8 + L) / 8 := ⟨_, rfl⟩
    rw [← hg] at ih ⊢
    obtain ⟨x, hx⟩ : ∃ x, x = g / 8 := ⟨_, rfl⟩
    rw [← hx]
    have h1 : (d + x) * (8 + L) = d * (8 + L) + x * (8 + L) := by rw [Int.add_mul]
    rw [h1]
    have h2 : 8 * x ≤ x * (8 + L) := by
      rw [Int.mul_comm x]; exact Int.mul_le_mul_of_nonneg_right (by omega) (by omega)
    have h3 : x * (8 + L) ≤ 16 * x := by
      rw [Int.mul_comm x]; exact Int.mul_le_mul_of_nonneg_right (by omega) (by omega)
    generalize x * (8 + L) = y at *
    generalize d * (8 + L) = w at *
    omega
theorem stB_end : stB 202 < 8 := by decide +kernel
theorem stD_rest {K L : Int} (hK : 0 ≤ K ∧ K ≤ 1000) (hL : 0 ≤ L ∧ L ≤ 8) : stD K L 203 = stD K L 202 ∧ 0 ≤ 16 * K - stD K L 203 * (8 + L) / 8 ∧ 16 * K - stD K L 203 * (8 + L) / 8 < 8 := by
  have h := stD_gap hK hL 202
  have hb := stB_end
  have e : stD K L 203 = stD K L 202 + (2 * K * 8 - stD K L 202 * (8 + L) / 8) / 8 := rfl
  have e2 : stD K L 203 = stD K L 202 := by
    rw [e, show 2 * K * 8 = 16 * K by omega]
    omega
  refine ⟨e2, ?_⟩
  rw [e2]
  omega
/-- Without events. -/
theorem runP_st {S : Su} {u : Nat} (so : SuOk S u) {i z : Nat} (hi : i < u) (hz : z < S.Z) : ∀ k, k ≤ 4000 →
    let p := (runP S u [] k).1
    (p.us i).ks = S.ks.getD i [] ∧ (p.us i).gn = 8 ∧ (p.us i).fl.getD z 0 = stD ((S.ks.getD i []).getD z 0) ((S.ld.getD i []).getD z 0) k
  | 0, _ => by
    refine ⟨rfl, rfl, ?_⟩
    show (List.replicate S.Z (0 : Int)).getD z 0 = 0
    rw [List.getD_eq_getElem?_getD, List.getElem?_replicate, if_pos hz]; rfl
  | k + 1, hk => by
    have ih := runP_st so hi hz k (by omega)
    have ok := (runP_ok so (l := []) (fun v hv => by cases hv) k (by omega)).1
    obtain ⟨p, ep⟩ : ∃ p, p = (runP S u [] k).1 := ⟨_, rfl⟩
    have e : (runP S u [] (k + 1)).1 = fedP S u p := by
      rw [ep]
      have : (runP S u [] k).2 = [] := by
        clear ih ok ep hk
        induction k with
        | zero => rfl
        | succ k ih => rw [runP]; show (runE _ _ (runP S u [] k).2 _).2 = []; rw [ih]; rfl
      rw [runP, this]; rfl
    rw [← ep] at ih ok
    dsimp only at ih ⊢
    rw [e]
    have e2 : (fedP S u p).us i = dnU S p.us i := by show fe0 S p.us u i = _; unfold fe0; rw [if_pos hi]
    have oi := ok.un i hi
    rw [e2]
    unfold dnU
    refine ⟨(nkU_ks _).1.trans ih.1, (nkU_ks _).2.trans ih.2.1, ?_⟩
    rw [nkU_fl (by show z < (p.us i).fl.length; rw [oi.fl]; exact hz), if_pos hz]
    show inkV ((p.us i).fl.getD z 0) ((p.us i).ks.getD z 0) (p.us i).gn _ = _
    rw [ih.1, ih.2.1, ih.2.2]
    rfl
theorem runL_st {S : Su} {u : Nat} (so : SuOk S u) {i z k n : Nat} (hi : i < u) (hz : z < S.Z) (hk : k < n) (hn : n ≤ 4000) : (((runL S u [] n).getD k dRec).2.2.2.1.getD i []).getD z 0 = stD ((S.ks.getD i []).getD z 0) ((S.ld.getD i []).getD z 0) (k + 1) := by
  have e : (runL S u [] n).getD k dRec = recO S u (runB S u [] k) := tab_get hk
  have h := (runP_st so hi hz (k + 1) (by omega)).2.2
  rw [e, ← h]
  show ((flL S (runB S u [] k).us u 0).getD i []).getD z 0 = _
  rw [flL_at hi, Nat.zero_add]
  show _ = ((fe0 S (runB S u [] k).us u i).fl).getD z 0
  unfold fe0
  rw [if_pos hi]
end Go.Proofs.Ytbaepacihkgalaa
