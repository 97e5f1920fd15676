/- Sums of weights. -/
import Derived.Test.YtfgaefpdccdfiaaOver2
namespace Go.Proofs.Ytfgaefpdccdfiaa
open Go Go.Lite
set_option linter.unusedVariables false
set_option linter.unusedSimpArgs false
set_option maxRecDepth 100000
set_option maxHeartbeats 4000000
-- @simp rdi
theorem pow2_add (k : Nat) : 2 ^ (k + 1) = 2 ^ k + 2 ^ k := by rw [Nat.pow_succ]; omega
theorem wS_lo {t : List Int} {k s : Nat} (h : s < 2 ^ k) : wS t (k + 1) s = wS t k s * (255 - t.getD k 0) := by simp only [wS]; rw [if_pos h]
theorem wS_hi {t : List Int} {k s : Nat} : wS t (k + 1) (2 ^ k + s) = wS t k s * t.getD k 0 := by simp only [wS]; rw [if_neg (by omega), Nat.add_sub_cancel_left]
theorem wS_sum (t : List Int) : ∀ k, sumN (wS t k) (2 ^ k) = 255 ^ k := by
  intro k
  induction k with
  | zero => simp [sumN, wS]
  | succ k ih =>
    rw [pow2_add, sumN_add, sumN_congr (f := wS t (k + 1)) (g := fun s => wS t k s * (255 - t.getD k 0)) (fun i hi => wS_lo hi), sumN_congr (f := fun i => wS t (k + 1) (2 ^ k + i)) (g := fun s => wS t k s * t.getD k 0) (fun i hi => wS_hi), sumN_mul, sumN_mul, ih, Int.pow_succ, ← Int.mul_add]
    congr 1; omega
def bitN (s j : Nat) : Prop := s / 2 ^ j % 2 = 1
instance (s j : Nat) : Decidable (bitN s j) := by unfold bitN; infer_instance
theorem bitN_lo {s j : Nat} (h : s < 2 ^ j) : ¬ bitN s j := by unfold bitN; rw [Nat.div_eq_of_lt h]; omega
theorem bitN_hi {s j : Nat} (h : s < 2 ^ j) : bitN (2 ^ j + s) j := by
  unfold bitN
  rw [Nat.add_div_left _ (Nat.two_pow_pos j), Nat.div_eq_of_lt h]
theorem bitN_up {s j k : Nat} (h : j < k) : bitN (2 ^ k + s) j ↔ bitN s j := by
  unfold bitN
  obtain ⟨d, rfl⟩ : ∃ d, k = j + (d + 1) := ⟨k - j - 1, by omega⟩
  rw [Nat.pow_add, Nat.mul_add_div (Nat.two_pow_pos j), Nat.pow_succ]
  omega
theorem wS_ink (t : List Int) {j : Nat} : ∀ k, j < k → sumN (fun s => if bitN s j then wS t k s else 0) (2 ^ k) = t.getD j 0 * 255 ^ (k - 1) := by
  intro k
  induction k with
  | zero => intro h; omega
  | succ k ih =>
    intro h
    rw [pow2_add, sumN_add, Nat.add_sub_cancel]
    by_cases e : j = k
    · subst e
      rw [sumN_zero fun i hi => if_neg (bitN_lo hi), sumN_congr (g := fun s => wS t j s * t.getD j 0) (f := fun i => if bitN (2 ^ j + i) j then wS t (j + 1) (2 ^ j + i) else 0) fun i hi => by rw [if_pos (bitN_hi hi), wS_hi], sumN_mul, wS_sum, Int.zero_add, Int.mul_comm]
    · have ih := ih (by omega)
      rw [sumN_congr (f := fun s => if bitN s j then wS t (k + 1) s else 0) (g := fun s => (fun s => if bitN s j then wS t k s else 0) s * (255 - t.getD k 0)) fun i hi => by
          dsimp only; split
          · exact wS_lo hi
          · simp,
        sumN_congr (f := fun i => if bitN (2 ^ k + i) j then wS t (k + 1) (2 ^ k + i) else 0) (g := fun s => (fun s => if bitN s j then wS t k s else 0) s * t.getD k 0) fun i hi => by
          dsimp only
          by_cases hb : bitN i j
          · rw [if_pos hb, if_pos ((bitN_up (by omega)).2 hb), wS_hi]
          · rw [if_neg hb, if_neg (fun h => hb ((bitN_up (by omega)).1 h))]; simp,
        sumN_mul, sumN_mul, ih, ← Int.mul_add, show 255 - t.getD k 0 + t.getD k 0 = 255 by omega, Int.mul_assoc, ← Int.pow_succ, show (k - 1).succ = k by omega]
theorem wS_part {t : List Int} (ht : inTone t) {k i : Nat} (hk : k ≤ t.length) (hi : i ≤ 2 ^ k) : 0 ≤ sumN (wS t k) i ∧ sumN (wS t k) i ≤ 255 ^ k := by
  refine ⟨sumN_nonneg fun s _ => (wS_bd ht k s hk).1, ?_⟩
  rw [← wS_sum t k]
  exact sumN_mono hi fun s _ => (wS_bd ht k s hk).1
theorem wS_ipart {t : List Int} (ht : inTone t) {k i j : Nat} (hk : k ≤ t.length) (hi : i ≤ 2 ^ k) : 0 ≤ sumN (fun s => if bitN s j then wS t k s else 0) i ∧ sumN (fun s => if bitN s j then wS t k s else 0) i ≤ 255 ^ k := by
  refine ⟨sumN_nonneg fun s _ => by have := (wS_bd ht k s hk).1; split <;> omega, ?_⟩
  refine Int.le_trans (sumN_le (g := wS t k) fun s _ => by have := (wS_bd ht k s hk).1; split <;> omega) (wS_part ht hk hi).2
noncomputable def ovE (t : List Int) : Int := if 6 < t.length then 2 else if t.length = 0 then 1 else tonesE t t.length
theorem ovE_ok {t : List Int} : ovE t = 0 ↔ 1 ≤ t.length ∧ t.length ≤ 6 ∧ inTone t := by
  unfold ovE
  split
  · constructor
    · intro h; cases h
    · intro h; omega
  · split
    · constructor
      · intro h; cases h
      · intro h; omega
    · rw [tonesE_ok]; constructor
      · exact fun h => ⟨by omega, by omega, h.2⟩
      · exact fun h => ⟨rfl, h.2.2⟩
theorem ovCheck_c (t : List Int) (hl : Due (t.length ≤ 9223372036854775807)) : TC R Try.prog overprint_check_f [.lst Ei t] [] (fun v X => v = .int .i64 (ovE t) ∧ X = []) := by
  dsimp only [Due] at hl
  refine tc0 env overprint_check_s (by rfl) ?_
  dsimp only [overprint_check_c]
  repeat' (first
    | ((with_reducible refine TOps.any ?_); refine TOps.callV env (by rfl) (by rfl) (by rfl) (tones_c _ _ ?_) ?_)
    | with_reducible first | refine Tw.seq ?_ | refine Tw.reg ?_ | refine Tw.block ?_ | refine Tw.scope ?_ | refine Tw.skip ?_ | refine Tw.exit ?_ | refine Tw.ret ?_ | refine seqN ?_ | refine seqR ?_ | refine seqE ?_ | refine blkN ?_ | refine blkR ?_ | refine blkE1 ?_ | refine blkE0 (by kernel_rfl) ?_ | refine scpN ?_ | refine scpR ?_ | refine scpE ?_ | refine TOps.nil ?_ | exact Conj.nil | refine Conj.cons rfl ?_ | refine Conj.same ?_ | refine Conj.ask ?_ ?_ | refine Tw.regd env ?_ | refine TDr.nil ⟨by kernel_rfl, ?_⟩
    | ((with_reducible refine TOps.any ?_); first | refine TOps.frunP env (by rfl) (by rfl) ?_ ?_ | refine TOps.strip env (by rfl) (by rfl) ?_ ?_)
    | ((with_reducible refine TDr.any ?_); refine TDr.frunP env (by rfl) (by rfl) ?_ ?_)
    | ((with_reducible refine Tw.any ?_); first | refine Tw.condT (by rfl) ?_ | refine Tw.condF (by rfl) ?_)
    | ((first | ((with_reducible refine TOps.any ?_); (fail_if_success refine TOps.known (by rfl) ?_); refine TOps.ask (by rfl) (fun h => ?_) (fun h => ?_)) | ((with_reducible refine TDr.any ?_); (fail_if_success refine TDr.known (by first | rfl | assumption) ?_); refine TDr.ask (by rfl) (fun h hk => ?_) (fun h => ?_)) | ((with_reducible refine Tw.any ?_); refine Tw.cond (by rfl) (fun h => ?_) (fun h => ?_))) <;> (try simp only [goS] at h) <;> (try simp only [rdi, Int.toNat_natCast, Nat.add_zero] at h))
    | ((with_reducible refine tret.any ?_); first | refine tret.ok (by rfl) ?_ | refine tret.okN (by rfl) ?_)
    | ((with_reducible refine Due.mk ?_); (first | with_reducible rfl | omega | assumption | decide | ((try simp only [goS] at *) <;> (try intro h) <;> (try intro h') <;> (try simp only [goS] at *) <;> (try simp only [rdi, Int.toNat_natCast, Nat.add_zero] at *) <;> (try simp only [rng]) <;> (first | assumption | omega)) | (exact due_app0 (by omega)) | (exact due_app (by omega)) | (intros; simp; done) | (intros; simp; omega)))
    | with_reducible refine Due.mk ?_
    | omega)
  · exact ⟨rfl, by rw [ovE, if_pos (by omega)], rfl⟩
  · exact ⟨rfl, by rw [ovE, if_neg (by omega), if_pos (by omega)], rfl⟩
  · exact ⟨rfl, by rw [ovE, if_neg (by omega), if_neg (by omega)], rfl⟩
end Go.Proofs.Ytfgaefpdccdfiaa
