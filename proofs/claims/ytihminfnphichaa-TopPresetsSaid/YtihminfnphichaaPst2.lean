/- Plain: with the keys that belong to its loads a press comes near its targets. -/
import Derived.Test.YtihminfnphichaaStl1
import Derived.Test.YtihminfnphichaaPrsT
import Derived.Test.YtihminfnphichaaPrsP
namespace Go.Proofs.Ytihminfnphichaa
open Go Go.Lite
set_option linter.unusedVariables false
set_option linter.unusedSimpArgs false
set_option maxRecDepth 100000
set_option maxHeartbeats 4000000

theorem shr_120 : shr 120 = 0 := by decide +kernel
theorem shr_no : ∀ m, 120 ≤ m → shr m = 0
  | 0, h => by omega
  | m + 1, h => by
    by_cases e : m + 1 = 120
    · rw [e]; exact shr_120
    · have := shr_no m (by omega)
      rw [shr, this]; rfl
theorem key_err {T v : Int} (hT : 0 ≤ T ∧ T ≤ 8000) (hv : 0 ≤ v ∧ v ≤ 8) : -64 ≤ 128 * min 1000 (near (T * (8 + v)) 128) - (8 + v) * T ∧ 128 * min 1000 (near (T * (8 + v)) 128) - (8 + v) * T ≤ 64 := by
  have hm : 0 ≤ (8 + v) * T ∧ (8 + v) * T ≤ 16 * 8000 := ⟨Int.mul_nonneg (by omega) hT.1, Int.mul_le_mul (by omega) hT.2 hT.1 (by omega)⟩
  rw [Int.mul_comm T]
  unfold near
  generalize (8 + v) * T = a at *
  omega
theorem near_ni {T v K : Int} (hT : 0 ≤ T ∧ T ≤ 8000) (hv : 0 ≤ v ∧ v ≤ 8) (hK : K = min 1000 (near (T * (8 + v)) 128)) : ∀ m, NI (8 + v) T 8 K (stD K v m) 0 m
  | 0 => by
    have h := key_err hT hv
    rw [← hK] at h
    have hk : 0 ≤ K ∧ K ≤ 1000 := by
      have hm : 0 ≤ (8 + v) * T := Int.mul_nonneg (by omega) hT.1
      rw [hK, Int.mul_comm T]
      unfold near
      generalize (8 + v) * T = a at *
      omega
    have hk0 : kyBd 0 = 96000 := rfl
    have hs0 : shr 0 = 145000 := rfl
    refine NI.mk3 ⟨?_, ?_, fun h => absurd h (by omega)⟩
    · rw [hk0]
      generalize (8 + v) * T = a at *
      omega
    · have e0 : stD K v 0 = 0 := rfl
      rw [hs0, e0, Int.mul_zero]
      omega
  | m + 1 => ni_print hv (near_ni hT hv hK m)
theorem near_end {T v K : Int} (hT : 0 ≤ T ∧ T ≤ 8000) (hv : 0 ≤ v ∧ v ≤ 8) (hK : K = min 1000 (near (T * (8 + v)) 128)) {m : Nat} (hm : 120 ≤ m) : -24 ≤ stD K v m - T ∧ stD K v m - T ≤ 24 := by
  obtain ⟨_, ⟨d1, d2⟩, _⟩ := near_ni hT hv hK m
  have h := key_err hT hv
  rw [← hK] at h
  rw [shr_no m hm] at d1 d2
  obtain ⟨F, eF⟩ : ∃ F, F = stD K v m := ⟨_, rfl⟩
  rw [← eF] at d1 d2 ⊢
  have e : (8 + v) * T - (8 + v) * F = (8 + v) * (T - F) := by rw [Int.mul_sub]
  have b : -200 < (8 + v) * (T - F) ∧ (8 + v) * (T - F) < 200 := by
    rw [← e]
    generalize (8 + v) * T = a at *
    generalize (8 + v) * F = b at *
    omega
  obtain ⟨x, hx⟩ : ∃ x, x = T - F := ⟨_, rfl⟩
  rw [← hx] at b
  rcases Int.le_total 0 x with h | h
  · have : 8 * x ≤ (8 + v) * x := Int.mul_le_mul_of_nonneg_right (by omega) h
    omega
  · have : (8 + v) * x ≤ 8 * x := Int.mul_le_mul_of_nonpos_right (by omega) h
    omega
theorem runP_nil {S : Su} {u : Nat} : ∀ k, (runP S u [] k).2 = [] ∧ (runP S u [] (k + 1)).1 = fedP S u (runP S u [] k).1
  | 0 => ⟨rfl, rfl⟩
  | k + 1 => by
    have ih := (runP_nil (S := S) (u := u) k).1
    have e : (runP S u [] (k + 1)).2 = [] := by rw [runP]; show (runE _ _ (runP S u [] k).2 _).2 = []; rw [ih]; rfl
    refine ⟨e, ?_⟩
    rw [runP, e]; rfl
theorem runB_nil {S : Su} {u k : Nat} : runB S u [] k = (runP S u [] k).1 := by
  unfold runB
  rw [(runP_nil k).1]; rfl
/-- Without events no unit moves, and no sheet jams. -/
theorem runP_at {S : Su} {u : Nat} {i : Nat} (hi : i < u) : ∀ k, let p := (runP S u [] k).1
    p.j = 0 ∧ (p.us i).x = 0 ∧ (p.us i).y = 0 ∧ (p.us i).dx = 0 ∧ (p.us i).dy = 0
  | 0 => ⟨rfl, rfl, rfl, rfl, rfl⟩
  | k + 1 => by
    have ih := runP_at hi k (S := S)
    dsimp only at ih ⊢
    rw [(runP_nil k).2]
    obtain ⟨p, ep⟩ : ∃ p, p = (runP S u [] k).1 := ⟨_, rfl⟩
    rw [← ep] at ih ⊢
    obtain ⟨h0, h1, h2, h3, h4⟩ := ih
    have e2 : (fedP S u p).us i = dnU S p.us i := by show fe0 S p.us u i = _; unfold fe0; rw [if_pos hi]
    have e : ∀ n (a : Un) (ld : List Int), (nkU a ld n).x = a.x ∧ (nkU a ld n).y = a.y ∧ (nkU a ld n).dx = a.dx ∧ (nkU a ld n).dy = a.dy := by
      intro n a ld
      induction n with
      | zero => exact ⟨rfl, rfl, rfl, rfl⟩
      | succ n ih => exact ih
    obtain ⟨e3, e4, e5, e6⟩ := e S.Z (mv1 p.us i) (S.ld.getD i [])
    refine ⟨?_, ?_, ?_, ?_, ?_⟩
    · show (if 0 < p.j then p.j - 1 else p.j) = 0
      rw [h0]; rfl
    · rw [e2]
      show (nkU (mv1 p.us i) _ _).x = 0
      rw [e3]
      show cutP ((p.us i).x + (p.us i).dx) = 0
      rw [h1, h3]; rfl
    · rw [e2]
      show (nkU (mv1 p.us i) _ _).y = 0
      rw [e4]
      show cutP ((p.us i).y + (p.us i).dy) = 0
      rw [h2, h4]; rfl
    · rw [e2]
      show (nkU (mv1 p.us i) _ _).dx = 0
      rw [e5]; exact h3
    · rw [e2]
      show (nkU (mv1 p.us i) _ _).dy = 0
      rw [e6]; exact h4
theorem run_st {S : Su} {u k n : Nat} (so : SuOk S u) (hk : k < n) : ((runL S u [] n).getD k dRec).2.1 = 0 ∨ ((runL S u [] n).getD k dRec).2.1 = 1 := by
  have e : (runL S u [] n).getD k dRec = recO S u (runB S u [] k) := tab_get hk
  rw [e, runB_nil]
  have hj := (runP_at (S := S) (u := u) (i := 0) (by have := so.un; omega) k).1
  show fedS S u _ = 0 ∨ fedS S u _ = 1
  unfold fedS
  rw [if_neg (by omega)]
  split
  · exact .inl rfl
  · exact .inr rfl
theorem preset_good {S : Su} {u k n : Nat} (so : SuOk S u) (hmr : S.mr = 0) (hrg : S.rg = 0) (htol : S.tol = 24) (hT : ∀ i, i < u → 0 ≤ S.tg.getD i 0 ∧ S.tg.getD i 0 ≤ 8000) (hK : ∀ i z, i < u → z < S.Z → (S.ks.getD i []).getD z 0 = min 1000 (near (S.tg.getD i 0 * (8 + (S.ld.getD i []).getD z 0)) 128)) (hk : k < n) (hn : n ≤ 4000) (h120 : 120 ≤ k) : ((runL S u [] n).getD k dRec).2.1 = 0 := by
  have e : (runL S u [] n).getD k dRec = recO S u (runB S u [] k) := tab_get hk
  rw [e, runB_nil]
  have at0 : ∀ i, i < u → (runP S u [] k).1.j = 0 := fun i hi => (runP_at (S := S) (u := u) (i := i) hi k).1
  have at1 := fun i z hi hz => (runP_st so (i := i) (z := z) hi hz (k + 1) (by omega)).2.2
  have okp := (runP_ok so (l := []) (fun v hv => by cases hv) k (by omega)).1
  have at1 : ∀ i z, i < u → z < S.Z → ((runP S u [] (k + 1)).1.us i).fl.getD z 0 = stD ((S.ks.getD i []).getD z 0) ((S.ld.getD i []).getD z 0) (k + 1) := at1
  rw [(runP_nil k).2] at at1
  obtain ⟨p, ep⟩ : ∃ p, p = (runP S u [] k).1 := ⟨_, rfl⟩
  rw [← ep] at at0 at1 okp ⊢
  have hj := at0 0 (by have := so.un; omega)
  show fedS S u p = 0
  unfold fedS
  rw [if_neg (by omega), if_pos]
  refine ⟨by rw [hmr]; show 0 < p.s + 1; have := okp.s; omega, fun i hi => ?_⟩
  have h1 := (runP_at (S := S) (u := u) (i := i) hi (k + 1))
  dsimp only at h1
  rw [(runP_nil k).2, ← ep] at h1
  obtain ⟨_, x0, y0, _, _⟩ := h1
  refine ⟨?_, fun z hz => ?_⟩
  · show -S.rg ≤ ((fedP S u p).us i).x ∧ ((fedP S u p).us i).x ≤ S.rg ∧ -S.rg ≤ ((fedP S u p).us i).y ∧ ((fedP S u p).us i).y ≤ S.rg
    rw [x0, y0, hrg]
    omega
  · show -S.tol ≤ ((fedP S u p).us i).fl.getD z 0 - S.tg.getD i 0 ∧ ((fedP S u p).us i).fl.getD z 0 - S.tg.getD i 0 ≤ S.tol
    rw [at1 i z hi hz, htol]
    exact near_end (hT i hi) ((so.l i hi).2 z hz) (hK i z hi hz) (by omega)
theorem cnS_none {l : List SRec} {st : Int} : ∀ n, (∀ k, k < n → (l.getD k dRec).2.1 ≠ st) → cnS l st n = 0
  | 0, _ => rfl
  | n + 1, h => by rw [cnS, if_neg (h n (by omega)), cnS_none n fun k hk => h k (by omega)]
end Go.Proofs.Ytihminfnphichaa
