/- Range coder: what is encoded is decoded (plain). -/
import Derived.Test.YtjedljdfkoagbaaRc8
namespace Go.Proofs.Ytjedljdfkoagbaa
open Go Go.Lite
set_option linter.unusedVariables false
set_option linter.unusedSimpArgs false
set_option maxRecDepth 100000
set_option maxHeartbeats 4000000

theorem val_congr {q r : List Int} : ∀ {m : Nat}, (∀ i, i < m → q.getD i 0 = r.getD i 0) → val q m = val r m
  | 0, _ => rfl
  | m + 1, h => by simp only [val]; rw [val_congr fun i hi => h i (by omega), h m (by omega)]
theorem val_dg : ∀ {n V m : Nat}, m ≤ n → V < 256 ^ n → val (dg n V) m = ((V / 256 ^ (n - m) : Nat) : Int)
  | 0, V, m, hm, hV => by
    have : m = 0 := by omega
    subst this
    have : V = 0 := by simpa using hV
    subst this; rfl
  | n + 1, V, m, hm, hV => by
    have h1 : V / 256 < 256 ^ n := by
      rw [Nat.pow_succ] at hV
      exact Nat.div_lt_of_lt_mul (by rw [Nat.mul_comm]; exact hV)
    have pre : ∀ m, m ≤ n → val (dg (n + 1) V) m = ((V / 256 / 256 ^ (n - m) : Nat) : Int) := fun m hm => by
      rw [← val_dg hm h1]
      exact val_congr fun i hi => by simp only [dg]; exact getD_app1 (by rw [dg_len]; omega)
    rcases Nat.lt_or_ge n m with h | h
    · obtain rfl : m = n + 1 := by omega
      have e : (dg (n + 1) V).getD n 0 = ((V % 256 : Nat) : Int) := by
        have : n = (dg n (V / 256)).length := by rw [dg_len]
        simp only [dg]
        conv => lhs; arg 2; rw [this]
        exact getD_snoc ..
      simp only [val]
      rw [pre n (Nat.le_refl n), e, Nat.sub_self, Nat.sub_self, Nat.pow_zero, Nat.div_one, Nat.div_one]
      omega
    · rw [pre m h, Nat.div_div_eq_div_mul, show n + 1 - m = (n - m) + 1 by omega, Nat.pow_succ, Nat.mul_comm 256]

/-- An interval lies in the one before. -/
theorem estep_in {N k : Nat} {s : ES} {i t : Nat} (h : ESOk N k s) (hi : i < N) :
    ∃ d, (estep s i t).n = s.n + d ∧ s.V * 256 ^ d ≤ (estep s i t).V ∧ (estep s i t).V + (estep s i t).w.toNat ≤ (s.V + s.w.toNat) * 256 ^ d := by
  have hi2 : i < s.cs.length := by rw [h.len]; exact hi
  have zb := rspl_bd h.cx hi2 h.w.1
  have hw := h.w
  have pv : s.V ≤ pV s.cs s.w i t s.V ∧ pV s.cs s.w i t s.V + (pW s.cs s.w i t).toNat ≤ s.V + s.w.toNat ∧ 0 ≤ pW s.cs s.w i t := by
    unfold pV pW
    split <;> omega
  unfold estep
  split
  · exact ⟨1, rfl, by simp only; omega, by simp only; omega⟩
  · exact ⟨0, rfl, by simp only; omega, by simp only; omega⟩
theorem nest {N : Nat} {ci bi : Nat → Nat} {k : Nat} : ∀ {m : Nat}, (∀ j, j < k + m → ci j < N ∧ bi j ≤ 1) →
    ∃ d, (eRun N ci bi (k + m)).n = (eRun N ci bi k).n + d ∧ (eRun N ci bi k).V * 256 ^ d ≤ (eRun N ci bi (k + m)).V ∧ (eRun N ci bi (k + m)).V + (eRun N ci bi (k + m)).w.toNat ≤ ((eRun N ci bi k).V + (eRun N ci bi k).w.toNat) * 256 ^ d
  | 0, _ => ⟨0, rfl, by simp, by simp⟩
  | m + 1, h => by
    obtain ⟨d, i1, i2, i3⟩ := nest (N := N) (ci := ci) (bi := bi) (k := k) (m := m) fun j hj => h j (by omega)
    obtain ⟨e, j1, j2, j3⟩ := estep_in (t := bi (k + m)) (eRun_ok (N := N) (ci := ci) (bi := bi) (k := k + m) fun j hj => h j (by omega)) (h (k + m) (by omega)).1
    refine ⟨d + e, ?_, ?_, ?_⟩
    · show (estep (eRun N ci bi (k + m)) (ci (k + m)) (bi (k + m))).n = _
      rw [j1, i1, Nat.add_assoc]
    · refine Nat.le_trans ?_ j2
      rw [Nat.pow_add, ← Nat.mul_assoc]
      exact Nat.mul_le_mul_right _ i2
    · refine Nat.le_trans j3 ?_
      rw [Nat.pow_add, ← Nat.mul_assoc]
      exact Nat.mul_le_mul_right _ i3

/-- The bytes are those that Close hands out, or have zeros behind them. -/
def Same (s : ES) (q : List Int) : Prop := ∀ i, q.getD i 0 = (dg (s.n + 4) s.V).getD i 0
theorem same_bytes (s : ES) (m : Nat) : Same s (bytesOf s ++ List.replicate m 0) := by
  intro i
  have lb := bytes_len (s := s)
  have ll := lz_le (L := dg (s.n + 4) s.V) (m := s.n + 4)
  have dl : (dg (s.n + 4) s.V).length = s.n + 4 := dg_len
  rcases Nat.lt_or_ge i (bytesOf s).length with h | h
  · rw [getD_app1 h]
    unfold bytesOf
    rw [cut_eq, getD_sub (by omega), Nat.zero_add]
  · have e : (bytesOf s ++ List.replicate m (0 : Int)).getD i 0 = 0 := by
      rw [getD_app2 h]
      rcases Nat.lt_or_ge (i - (bytesOf s).length) m with h2 | h2
      · exact getD_repl h2
      · rw [List.getD_eq_getElem?_getD, List.getElem?_eq_none (by simpa using h2)]; rfl
    rw [e]
    rcases Nat.lt_or_ge i (s.n + 4) with h2 | h2
    · exact (lz_zero (by omega) h2).symm
    · rw [List.getD_eq_getElem?_getD, List.getElem?_eq_none (by omega)]; rfl

theorem within {N K k : Nat} {ci bi : Nat → Nat} {q : List Int} (hc : ∀ j, j < K → ci j < N ∧ bi j ≤ 1) (hq : Same (eRun N ci bi K) q) (hk : k ≤ K) :
    ((eRun N ci bi k).V : Int) ≤ val q ((eRun N ci bi k).n + 4) ∧ val q ((eRun N ci bi k).n + 4) < (eRun N ci bi k).V + (eRun N ci bi k).w := by
  obtain ⟨m, rfl⟩ : ∃ m, K = k + m := ⟨K - k, by omega⟩
  obtain ⟨d, n1, n2, n3⟩ := nest hc
  obtain ⟨d0, z1, z2, z3⟩ := nest (k := 0) (m := k + m) (N := N) (ci := ci) (bi := bi) (by rw [Nat.zero_add]; exact hc)
  rw [Nat.zero_add] at z1 z2 z3
  have w1 := (eRun_ok (N := N) (ci := ci) (bi := bi) (k := k) fun j hj => hc j (by omega)).w
  have w2 := (eRun_ok (N := N) (ci := ci) (bi := bi) (k := k + m) hc).w
  have z0 : (eRun N ci bi 0).n = 0 ∧ (eRun N ci bi 0).V = 0 ∧ (eRun N ci bi 0).w = 4294967295 := ⟨rfl, rfl, rfl⟩
  rw [z0.1, Nat.zero_add] at z1
  rw [z0.2.1, z0.2.2] at z3
  have e1 := val_congr (m := (eRun N ci bi k).n + 4) fun i _ => hq i
  generalize eRun N ci bi (k + m) = S at *
  generalize eRun N ci bi k = s at *
  have hV : S.V < 256 ^ (S.n + 4) := by
    rw [z1, Nat.pow_add]
    have p : 0 < 256 ^ d0 := Nat.pow_pos (by decide)
    have : (0 + Int.toNat 4294967295) * 256 ^ d0 ≤ 256 ^ d0 * 256 ^ 4 := by
      rw [Nat.mul_comm]; exact Nat.mul_le_mul_left _ (by decide)
    omega
  rw [e1, val_dg (by omega) hV, show S.n + 4 - (s.n + 4) = d by omega]
  have p : 0 < 256 ^ d := Nat.pow_pos (by decide)
  have a1 : s.V ≤ S.V / 256 ^ d := (Nat.le_div_iff_mul_le p).2 n2
  have a2 : S.V / 256 ^ d < s.V + s.w.toNat := (Nat.div_lt_iff_lt_mul p).2 (by omega)
  omega

theorem dec_is {N K : Nat} {ci bi : Nat → Nat} {q : List Int} (hqb : ∀ i, i < q.length → 0 ≤ q.getD i 0 ∧ q.getD i 0 ≤ 255) (hc : ∀ j, j < K → ci j < N ∧ bi j ≤ 1) (hq : Same (eRun N ci bi K) q) : ∀ {k : Nat}, k ≤ K →
    dRun N q ci k = ⟨(eRun N ci bi k).cs, (eRun N ci bi k).w, val q ((eRun N ci bi k).n + 4) - (eRun N ci bi k).V, (eRun N ci bi k).n + 4⟩
  | 0, _ => by
    show (⟨_, _, _, _⟩ : DS) = ⟨_, _, _, _⟩
    have : val q 4 - (((eRun N ci bi 0).V : Nat) : Int) = val q 4 := Int.sub_zero _
    rw [show (eRun N ci bi 0).n + 4 = 4 from rfl, this]
    rfl
  | k + 1, hk => by
    have ih := dec_is hqb hc hq (k := k) (by omega)
    have w0 := within hc hq (k := k) (by omega)
    have w1 := within hc hq (k := k + 1) hk
    have ok := eRun_ok (N := N) (ci := ci) (bi := bi) (k := k) fun j hj => hc j (by omega)
    have hi2 : ci k < (eRun N ci bi k).cs.length := by rw [ok.len]; exact (hc k (by omega)).1
    have zb := rspl_bd ok.cx hi2 ok.w.1
    have hw := ok.w
    have hb := (hc k (by omega)).2
    have es : eRun N ci bi (k + 1) = estep (eRun N ci bi k) (ci k) (bi k) := rfl
    have ds : dRun N q ci (k + 1) = dstep q (dRun N q ci k) (ci k) := rfl
    have qb := byte_at hqb ((eRun N ci bi k).n + 4)
    rw [es] at w1
    rw [ds, ih, es]
    clear es ds ih
    generalize eRun N ci bi k = s at *
    generalize hx : val q (s.n + 4) = x at *
    have vx : val q (s.n + 1 + 4) = x * 256 + q.getD (s.n + 4) 0 := by
      rw [show s.n + 1 + 4 = (s.n + 4) + 1 by omega, val, hx]
    have key : gB s.cs s.w (ci k) (x - s.V) = bi k ∧ gC s.cs s.w (ci k) (x - s.V) = x - pV s.cs s.w (ci k) (bi k) s.V ∧ 0 ≤ x - (pV s.cs s.w (ci k) (bi k) s.V : Nat) ∧ x - (pV s.cs s.w (ci k) (bi k) s.V : Nat) < pW s.cs s.w (ci k) (bi k) := by
      have w2 : ((pV s.cs s.w (ci k) (bi k) s.V : Nat) : Int) ≤ x ∧ x < (pV s.cs s.w (ci k) (bi k) s.V : Nat) + pW s.cs s.w (ci k) (bi k) := by
        unfold estep at w1
        split at w1
        · simp only at w1
          rw [vx] at w1
          omega
        · simp only at w1
          rw [hx] at w1
          exact w1
      unfold gB gC
      unfold pV pW at w2 ⊢
      by_cases h0 : bi k = 0
      · rw [if_pos h0, if_pos h0] at w2
        rw [if_pos h0, if_pos h0, if_pos (by omega), if_pos (by omega), h0]
        omega
      · have h1 : bi k = 1 := by omega
        rw [if_neg h0, if_neg h0] at w2
        rw [if_neg h0, if_neg h0, if_neg (by omega), if_neg (by omega), h1]
        omega
    obtain ⟨k1, k2, k3, k4⟩ := key
    unfold dstep estep dbit
    simp only
    rw [k1, k2]
    by_cases hr : pW s.cs s.w (ci k) (bi k) < 16777216
    · rw [if_pos hr, if_pos hr]
      simp only
      rw [vx]
      have : (x - ((pV s.cs s.w (ci k) (bi k) s.V : Nat) : Int)) * 256 % 4294967296 + q.getD (s.n + 4) 0 = x * 256 + q.getD (s.n + 4) 0 - ((pV s.cs s.w (ci k) (bi k) s.V * 256 : Nat) : Int) := by omega
      rw [this]
    · rw [if_neg hr, if_neg hr]
      simp only
      rw [hx]
theorem dec_bit {N K k : Nat} {ci bi : Nat → Nat} {q : List Int} (hqb : ∀ i, i < q.length → 0 ≤ q.getD i 0 ∧ q.getD i 0 ≤ 255) (hc : ∀ j, j < K → ci j < N ∧ bi j ≤ 1) (hq : Same (eRun N ci bi K) q) (hk : k < K) : dbit (dRun N q ci k) (ci k) = bi k := by
  have ih := dec_is hqb hc hq (k := k) (by omega)
  have w1 := within hc hq (k := k + 1) hk
  have ok := eRun_ok (N := N) (ci := ci) (bi := bi) (k := k) fun j hj => hc j (by omega)
  have hi2 : ci k < (eRun N ci bi k).cs.length := by rw [ok.len]; exact (hc k hk).1
  have zb := rspl_bd ok.cx hi2 ok.w.1
  have hw := ok.w
  have hb := (hc k hk).2
  have qb := byte_at hqb ((eRun N ci bi k).n + 4)
  rw [ih]
  rw [show eRun N ci bi (k + 1) = estep (eRun N ci bi k) (ci k) (bi k) from rfl] at w1
  clear ih
  generalize eRun N ci bi k = s at *
  generalize hx : val q (s.n + 4) = x at *
  have vx : val q (s.n + 1 + 4) = x * 256 + q.getD (s.n + 4) 0 := by
    rw [show s.n + 1 + 4 = (s.n + 4) + 1 by omega, val, hx]
  have w2 : ((pV s.cs s.w (ci k) (bi k) s.V : Nat) : Int) ≤ x ∧ x < (pV s.cs s.w (ci k) (bi k) s.V : Nat) + pW s.cs s.w (ci k) (bi k) := by
    unfold estep at w1
    split at w1
    · simp only at w1
      rw [vx] at w1
      omega
    · simp only at w1
      rw [hx] at w1
      exact w1
  unfold dbit gB
  simp only
  unfold pV pW at w2
  by_cases h0 : bi k = 0
  · rw [if_pos h0, if_pos h0] at w2
    rw [if_pos (by omega), h0]
  · rw [if_neg h0, if_neg h0] at w2
    rw [if_neg (by omega)]; omega
end Go.Proofs.Ytjedljdfkoagbaa
