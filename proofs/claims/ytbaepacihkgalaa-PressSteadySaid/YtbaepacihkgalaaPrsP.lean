/- Presses: what holds of the sheets of a run. -/
import Derived.Test.YtbaepacihkgalaaPrsT
import Derived.Test.YtbaepacihkgalaaPrsU
namespace Go.Proofs.Ytbaepacihkgalaa
open Go Go.Lite
set_option linter.unusedVariables false
set_option linter.unusedSimpArgs false
set_option maxRecDepth 100000
set_option maxHeartbeats 4000000

theorem tab_at {α : Type} {n i : Nat} {f : Nat → α} {d : α} (h : i < n) : (tab n f).getD i d = f i := tab_get h
theorem flL_at {S : Su} {us : Nat → Un} : ∀ {n j i : Nat}, i < n → (flL S us n j).getD i [] = (dnU S us (j + i)).fl
  | 0, _, _, h => by omega
  | n + 1, j, 0, h => rfl
  | n + 1, j, i + 1, h => by
    rw [flL, List.getD_cons_succ, flL_at (by omega)]
    congr 1
    rw [show j + 1 + i = j + (i + 1) by omega]
/-- What holds of a sheet that is fed. -/
structure RecOk (S : Su) (u : Nat) (k : Nat) (r : SRec) : Prop where
  n : r.1 = (k : Int) + 1
  st : r.2.1 = 0 ∨ r.2.1 = 1 ∨ r.2.1 = 2
  dry : (k : Int) + 51 ≤ r.2.2.2.2
  sl : r.2.2.1.length = u
  fl : r.2.2.2.1.length = u
  fz : ∀ i, i < u → (r.2.2.2.1.getD i []).length = S.Z ∧ ∀ z, z < S.Z → 0 ≤ (r.2.2.2.1.getD i []).getD z 0 ∧ (r.2.2.2.1.getD i []).getD z 0 ≤ 24000
  gd : r.2.1 = 0 → S.mr < r.1 ∧ ∀ i, i < u → (-S.rg ≤ (r.2.2.1.getD i (0, 0)).1 ∧ (r.2.2.1.getD i (0, 0)).1 ≤ S.rg ∧ -S.rg ≤ (r.2.2.1.getD i (0, 0)).2 ∧ (r.2.2.1.getD i (0, 0)).2 ≤ S.rg) ∧ ∀ z, z < S.Z → -S.tol ≤ (r.2.2.2.1.getD i []).getD z 0 - S.tg.getD i 0 ∧ (r.2.2.2.1.getD i []).getD z 0 - S.tg.getD i 0 ≤ S.tol
theorem rec_ok {S : Su} {u k : Nat} {p : Ps} (so : SuOk S u) (ok : PsOk S u p) (hk : p.n = k) : RecOk S u k (recO S u p) := by
  have sk := smK_in (p := p) so ok.un u (Nat.le_refl u)
  have mx := mxL_in (l := smK S p.us u) (B := 200000) (by omega) (fun i hi => by have := sk.2 i (by omega); have := so.un; omega) S.Z (by omega)
  have q := (quo_bd (a := mxL (smK S p.us u) S.Z) (b := 500) (by omega)).1 mx.1
  have os := ok.s
  refine ⟨by show p.n + 1 = _; omega, ?_, by show _ ≤ fedD S u p; unfold fedD; omega, tab_len, flL_len, fun i hi => ?_, fun h => ?_⟩
  · show fedS S u p = 0 ∨ fedS S u p = 1 ∨ fedS S u p = 2
    unfold fedS
    split
    · omega
    · split <;> omega
  · show ((flL S p.us u 0).getD i []).length = S.Z ∧ _
    have e : (flL S p.us u 0).getD i [] = (dnU S p.us i).fl := by rw [flL_at hi, Nat.zero_add]
    have d : UOk S.Z (dnU S p.us i) := nk_ok (mv_ok (ok.un i hi)) (so.l i hi).2 S.Z (Nat.le_refl _)
    refine ⟨by rw [e]; exact d.fl, fun z hz => ?_⟩
    show 0 ≤ ((flL S p.us u 0).getD i []).getD z 0 ∧ ((flL S p.us u 0).getD i []).getD z 0 ≤ 24000
    rw [e]
    exact d.f z hz
  · have h : fedS S u p = 0 := h
    unfold fedS at h
    split at h
    · omega
    split at h
    · rename_i g
      obtain ⟨g1, g2⟩ := g
      refine ⟨by show S.mr < p.n + 1; have : S.mr < p.s + 1 := g1; omega, fun i hi => ?_⟩
      have gi := g2 i hi
      have ef : fe0 S p.us u i = dnU S p.us i := by unfold fe0; rw [if_pos hi]
      have es : (shK S p.us u).getD i (0, 0) = ((dnU S p.us i).x, (dnU S p.us i).y) := tab_get hi
      have e : (flL S p.us u 0).getD i [] = (dnU S p.us i).fl := by rw [flL_at hi, Nat.zero_add]
      have r1 : regQ S (fe0 S p.us u i) := gi.1
      have r2 : ∀ z, z < S.Z → tolQ S (fe0 S p.us u i) (S.tg.getD i 0) z := gi.2
      rw [ef] at r1 r2
      constructor
      · show -S.rg ≤ ((shK S p.us u).getD i (0, 0)).1 ∧ ((shK S p.us u).getD i (0, 0)).1 ≤ S.rg ∧ -S.rg ≤ ((shK S p.us u).getD i (0, 0)).2 ∧ ((shK S p.us u).getD i (0, 0)).2 ≤ S.rg
        rw [es]; exact r1
      · intro z hz
        show -S.tol ≤ ((flL S p.us u 0).getD i []).getD z 0 - S.tg.getD i 0 ∧ ((flL S p.us u 0).getD i []).getD z 0 - S.tg.getD i 0 ≤ S.tol
        rw [e]; exact r2 z hz
    · omega
theorem run_ok {S : Su} {u : Nat} {l : List Ev} (so : SuOk S u) (hl : ∀ v ∈ l, evE v u S.Z = 0) {n k : Nat} (hk : k < n) (hn : n ≤ 4000) : RecOk S u k ((runL S u l n).getD k dRec) := by
  rw [runL, tab_get hk]
  have h := runP_ok so hl k (by omega)
  have h2 := runE_ok so (k := (k : Int) + 1) h.1 (by rw [h.2.1]) h.2.2
  exact rec_ok so h2.1 (by show (runE S.Z (k + 1) (runP S u l k).2 (runP S u l k).1).1.n = k; omega)
end Go.Proofs.Ytbaepacihkgalaa
