/- The law OverprintLayers: with the first three kinds, three layers may be combined from below or from above. -/
import Derived.Test.YtfgaefpdccdfiaaOver1
import Derived.Test.YtfgaefpdccdfiaaOverW
import Derived.Test.YtfgaefpdccdfiaaXOverprintLayers0
import Derived.Test.YtfgaefpdccdfiaaRInts
namespace Go.Proofs.Ytfgaefpdccdfiaa
open Go Go.Lite
set_option linter.unusedVariables false
set_option linter.unusedSimpArgs false
set_option maxRecDepth 100000
set_option maxHeartbeats 4000000
-- @simp rdi

theorem combE_ok {a b k : List Int} : combE a b k = 0 ↔ a.length ≤ 8 ∧ inTone a ∧ b.length = a.length ∧ inTone b ∧ k.length = a.length ∧ okKinds a k := by
  unfold combE
  constructor
  · intro h
    split at h; · cases h
    split at h; · omega
    split at h; · omega
    split at h; · cases h
    split at h
    · rename_i h1 h2 h3 h4 h5
      have h2 := tonesE_ok.1 (Decidable.not_not.1 h2)
      have h3 := tonesE_ok.1 (Decidable.not_not.1 h3)
      exact ⟨by omega, h2.2, by omega, h3.2, by omega, h5⟩
    · cases h
  · rintro ⟨h1, h2, h3, h4, h5, h6⟩
    have g2 : tonesE a a.length = 0 := tonesE_ok.2 ⟨rfl, h2⟩
    have g3 : tonesE b a.length = 0 := tonesE_ok.2 ⟨by omega, h4⟩
    rw [if_neg (by omega), if_neg (by omega), if_neg (by omega), if_neg (by omega), if_pos h6]

theorem comb1_tone {k x y : Int} (h : 0 ≤ x ∧ x ≤ 255 ∧ 0 ≤ y ∧ y ≤ 255) : 0 ≤ comb1 k x y ∧ comb1 k x y ≤ 255 := by
  have := scr_near h
  unfold comb1
  split
  · omega
  · split
    · split <;> omega
    · split <;> omega
theorem comb1_assoc {k x y z : Int} (hk : 0 ≤ k ∧ k ≤ 2) (hx : 0 ≤ x) (hy : 0 ≤ y) (hz : 0 ≤ z) : comb1 k (comb1 k x y) z = comb1 k x (comb1 k y z) := by
  by_cases h0 : k = 0
  · subst h0; rfl
  · by_cases h1 : k = 1
    · subst h1
      show (if 0 < z then z else if 0 < y then y else x) = if 0 < (if 0 < z then z else y) then (if 0 < z then z else y) else x
      repeat' split
      all_goals omega
    · have h2 : k = 2 := by omega
      subst h2
      show max (max x y) z = max x (max y z)
      omega
theorem combL_tone {a b k : List Int} (ha : inTone a) (hb : inTone b) (hl : b.length = a.length) : inTone (combL a b k) := by
  intro i hi
  rw [combL_len] at hi
  rw [combL_get hi]
  have h1 := ha i hi
  have h2 := hb i (by omega)
  exact comb1_tone (by omega)

theorem layers_plain {a b c k : List Int} (hk : ∀ i, i < k.length → k.getD i 0 ≠ 3) (h1 : combE a b k = 0) (h2 : combE b c k = 0) :
    combE (combL a b k) c k = 0 ∧ combE a (combL b c k) k = 0 ∧ combL (combL a b k) c k = combL a (combL b c k) k := by
  obtain ⟨a1, a2, a3, a4, a5, a6⟩ := combE_ok.1 h1
  obtain ⟨b1, b2, b3, b4, b5, b6⟩ := combE_ok.1 h2
  refine ⟨combE_ok.2 ⟨by rw [combL_len]; exact a1, combL_tone a2 a4 a3, by rw [combL_len]; omega, b4, by rw [combL_len]; omega, fun i hi => a6 i (by rwa [combL_len] at hi)⟩,
    combE_ok.2 ⟨a1, a2, by rw [combL_len]; omega, combL_tone b2 b4 b3, a5, a6⟩, ext_getD 0 (by simp only [combL_len]) fun i hi => ?_⟩
  simp only [combL_len] at hi
  rw [combL_get (by rw [combL_len]; exact hi), combL_get hi, combL_get hi, combL_get (by omega)]
  have g1 := a2 i hi
  have g2 := b2 i (by omega)
  have g3 := b4 i (by omega)
  have g4 := a6 i hi
  have g5 := hk i (by omega)
  exact comb1_assoc (by omega) (by omega) (by omega) (by omega)

theorem OverprintLayers_law (a b c k : List Int) (wa : a.length ≤ 9223372036854775807 ∧ ∀ y ∈ a, Wi y) (wb : b.length ≤ 9223372036854775807 ∧ ∀ y ∈ b, Wi y) (wc : c.length ≤ 9223372036854775807 ∧ ∀ y ∈ c, Wi y) (wk : k.length ≤ 9223372036854775807 ∧ ∀ y ∈ k, Wi y) :
    TC R Try.prog K2_OverprintLayers_f [.lst Ei a, .lst Ei b, .lst Ei c, .lst Ei k] [] (fun v X => v = .bool true ∧ X = []) := by
  have la := wa.1; have lb := wb.1; have lc := wc.1; have lk := wk.1
  refine tc0 env K2_OverprintLayers_s (by rfl) ?_
  dsimp only [K2_OverprintLayers_c]
  repeat' (first
    | ((with_reducible refine TOps.any ?_); refine TOps.callV env (by rfl) (by rfl) (by rfl) (overWorks_c) ?_)
    | with_reducible refine Tw.seq ?_
    | with_reducible refine Tw.reg ?_
    | with_reducible refine Tw.block ?_
    | with_reducible refine Tw.scope ?_
    | with_reducible refine Tw.skip ?_
    | with_reducible refine Tw.exit ?_
    | with_reducible refine Tw.ret ?_
    | with_reducible refine seqN ?_
    | with_reducible refine seqR ?_
    | with_reducible refine seqE ?_
    | with_reducible refine blkN ?_
    | with_reducible refine blkR ?_
    | with_reducible refine blkE1 ?_
    | with_reducible refine blkE0 (by kernel_rfl) ?_
    | with_reducible refine scpN ?_
    | with_reducible refine scpR ?_
    | with_reducible refine scpE ?_
    | with_reducible refine TOps.nil ?_
    | with_reducible exact Conj.nil
    | with_reducible refine Conj.cons rfl ?_
    | with_reducible refine Conj.same ?_
    | with_reducible refine Conj.ask ?_ ?_
    | ((with_reducible refine TOps.any ?_); refine TOps.frunP env (by rfl) (by rfl) ?_ ?_)
    | with_reducible refine Tw.regd env ?_
    | ((with_reducible refine TDr.any ?_); refine TDr.frunP env (by rfl) (by rfl) ?_ ?_)
    | with_reducible refine TDr.nil ⟨by kernel_rfl, ?_⟩
    | ((with_reducible refine TOps.any ?_); refine TOps.strip env (by rfl) (by rfl) ?_ ?_)
    | ((with_reducible refine TOps.any ?_); (fail_if_success refine TOps.known (by rfl) ?_); refine TOps.ask (by rfl) (fun h => ?_) (fun h => ?_) <;> (try simp only [decide_eq_true_eq, decide_eq_false_iff_not, Bool.or_eq_true, Bool.and_eq_true, Bool.or_eq_false_iff, Bool.and_eq_false_iff, Bool.not_eq_true', Bool.not_eq_false', Int.not_lt, Int.not_le, Int.toNat_natCast, Int.toNat_zero] at h) <;> (try simp only [rdi, Int.toNat_natCast] at h))
    | ((with_reducible refine Tw.any ?_); refine Tw.condT (by rfl) ?_)
    | ((with_reducible refine Tw.any ?_); refine Tw.condF (by rfl) ?_)
    | ((with_reducible refine Tw.any ?_); refine Tw.cond (by rfl) (fun h => ?_) (fun h => ?_) <;> (try simp only [decide_eq_true_eq, decide_eq_false_iff_not, Bool.or_eq_true, Bool.and_eq_true, Bool.or_eq_false_iff, Bool.and_eq_false_iff, Bool.not_eq_true', Bool.not_eq_false', Int.not_lt, Int.not_le, Int.toNat_natCast, Int.toNat_zero] at h) <;> (try simp only [rdi, Int.toNat_natCast] at h))
    | ((with_reducible refine tret.any ?_); first | refine tret.ok (by rfl) ?_ | refine tret.okN (by rfl) ?_)
    | ((with_reducible refine Due.mk ?_); (first | with_reducible rfl | omega | assumption | decide | ((try simp only [decide_eq_true_eq, decide_eq_false_iff_not, Bool.or_eq_true, Bool.and_eq_true, Bool.or_eq_false_iff, Bool.and_eq_false_iff, Bool.not_eq_true', Bool.not_eq_false', Int.not_lt, Int.not_le, Int.toNat_natCast, Int.toNat_zero] at *) <;> (try intro h) <;> (try intro h') <;> (try simp only [decide_eq_true_eq, decide_eq_false_iff_not, Bool.or_eq_true, Bool.and_eq_true, Bool.or_eq_false_iff, Bool.and_eq_false_iff, Bool.not_eq_true', Bool.not_eq_false', Int.not_lt, Int.not_le, Int.toNat_natCast, Int.toNat_zero] at *) <;> (try simp only [rdi, Int.toNat_natCast] at *) <;> (try simp only [rng]) <;> omega)))
    | with_reducible refine Due.mk ?_
    | omega)
  refine Tw.loopK [0, 1, 2, 3, 21, 22] (fun i : Nat => i ≤ k.length ∧ ∀ j, j < i → k.getD j 0 ≠ 3) (fun i => k.length - i) (fun i => [(23, .int .i64 i)]) (fun _ => []) ⟨0, ⟨by omega, fun j hj => by omega⟩, TWk.fcanon env [] (by rfl) ?_⟩ (fun i hi => ?_)
  repeat' (first
    | refine ⟨i+1, ⟨by omega, ?_⟩, ?_, TWk.fcanon env [] (by rfl) ?_⟩
    | with_reducible refine Tw.seq ?_
    | with_reducible refine Tw.reg ?_
    | with_reducible refine Tw.block ?_
    | with_reducible refine Tw.scope ?_
    | with_reducible refine Tw.skip ?_
    | with_reducible refine Tw.exit ?_
    | with_reducible refine Tw.ret ?_
    | with_reducible refine seqN ?_
    | with_reducible refine seqR ?_
    | with_reducible refine seqE ?_
    | with_reducible refine blkN ?_
    | with_reducible refine blkR ?_
    | with_reducible refine blkE1 ?_
    | with_reducible refine blkE0 (by kernel_rfl) ?_
    | with_reducible refine scpN ?_
    | with_reducible refine scpR ?_
    | with_reducible refine scpE ?_
    | with_reducible refine TOps.nil ?_
    | with_reducible exact Conj.nil
    | with_reducible refine Conj.cons rfl ?_
    | with_reducible refine Conj.same ?_
    | with_reducible refine Conj.ask ?_ ?_
    | ((with_reducible refine TOps.any ?_); refine TOps.frunP env (by rfl) (by rfl) ?_ ?_)
    | with_reducible refine Tw.regd env ?_
    | ((with_reducible refine TDr.any ?_); refine TDr.frunP env (by rfl) (by rfl) ?_ ?_)
    | with_reducible refine TDr.nil ⟨by kernel_rfl, ?_⟩
    | ((with_reducible refine TOps.any ?_); refine TOps.strip env (by rfl) (by rfl) ?_ ?_)
    | ((with_reducible refine TOps.any ?_); (fail_if_success refine TOps.known (by rfl) ?_); refine TOps.ask (by rfl) (fun h => ?_) (fun h => ?_) <;> (try simp only [decide_eq_true_eq, decide_eq_false_iff_not, Bool.or_eq_true, Bool.and_eq_true, Bool.or_eq_false_iff, Bool.and_eq_false_iff, Bool.not_eq_true', Bool.not_eq_false', Int.not_lt, Int.not_le, Int.toNat_natCast, Int.toNat_zero] at h) <;> (try simp only [rdi, Int.toNat_natCast] at h))
    | ((with_reducible refine Tw.any ?_); refine Tw.condT (by rfl) ?_)
    | ((with_reducible refine Tw.any ?_); refine Tw.condF (by rfl) ?_)
    | ((with_reducible refine Tw.any ?_); refine Tw.cond (by rfl) (fun h => ?_) (fun h => ?_) <;> (try simp only [decide_eq_true_eq, decide_eq_false_iff_not, Bool.or_eq_true, Bool.and_eq_true, Bool.or_eq_false_iff, Bool.and_eq_false_iff, Bool.not_eq_true', Bool.not_eq_false', Int.not_lt, Int.not_le, Int.toNat_natCast, Int.toNat_zero] at h) <;> (try simp only [rdi, Int.toNat_natCast] at h))
    | ((with_reducible refine tret.any ?_); first | refine tret.ok (by rfl) ?_ | refine tret.okN (by rfl) ?_)
    | ((with_reducible refine Due.mk ?_); (first | with_reducible rfl | omega | assumption | decide | ((try simp only [decide_eq_true_eq, decide_eq_false_iff_not, Bool.or_eq_true, Bool.and_eq_true, Bool.or_eq_false_iff, Bool.and_eq_false_iff, Bool.not_eq_true', Bool.not_eq_false', Int.not_lt, Int.not_le, Int.toNat_natCast, Int.toNat_zero] at *) <;> (try intro h) <;> (try intro h') <;> (try simp only [decide_eq_true_eq, decide_eq_false_iff_not, Bool.or_eq_true, Bool.and_eq_true, Bool.or_eq_false_iff, Bool.and_eq_false_iff, Bool.not_eq_true', Bool.not_eq_false', Int.not_lt, Int.not_le, Int.toNat_natCast, Int.toNat_zero] at *) <;> (try simp only [rdi, Int.toNat_natCast] at *) <;> (try simp only [rng]) <;> omega)))
    | with_reducible refine Due.mk ?_
    | omega)
  · exact ⟨rfl, rfl, rfl⟩
  · intro j hj
    by_cases e : j = i
    · subst e; exact h
    · exact hi.2 j (by omega)
  have hk : ∀ i, i < k.length → k.getD i 0 ≠ 3 := fun j hj => hi.2 j (by omega)
  by_cases h1 : combE a b k = 0
  · by_cases h2 : combE b c k = 0
    · obtain ⟨h3, h4, h5⟩ := layers_plain hk h1 h2
      have l1 := combL_len a b k
      have l2 := combL_len b c k
      have l3 := combL_len (combL a b k) c k
      have l4 := combL_len a (combL b c k) k
      repeat' (first
        | ((with_reducible refine TOps.any ?_); refine TOps.callV env (by rfl) (by rfl) (by rfl) (combine_y a b k (by assumption) (by assumption) h1) ?_)
        | ((with_reducible refine TOps.any ?_); refine TOps.callV env (by rfl) (by rfl) (by rfl) (combine_y b c k (by assumption) (by assumption) h2) ?_)
        | ((with_reducible refine TOps.any ?_); refine TOps.callV env (by rfl) (by rfl) (by rfl) (combine_y (combL a b k) c k ?_ ?_ h3) ?_)
        | ((with_reducible refine TOps.any ?_); refine TOps.callV env (by rfl) (by rfl) (by rfl) (combine_y a (combL b c k) k ?_ ?_ h4) ?_)
        | ((with_reducible refine TOps.any ?_); refine TOps.callV env (by rfl) (by rfl) (by rfl) (sameInts_c _ _ ?_) ?_)
        | with_reducible refine Tw.seq ?_
        | with_reducible refine Tw.reg ?_
        | with_reducible refine Tw.block ?_
        | with_reducible refine Tw.scope ?_
        | with_reducible refine Tw.skip ?_
        | with_reducible refine Tw.exit ?_
        | with_reducible refine Tw.ret ?_
        | with_reducible refine seqN ?_
        | with_reducible refine seqR ?_
        | with_reducible refine seqE ?_
        | with_reducible refine blkN ?_
        | with_reducible refine blkR ?_
        | with_reducible refine blkE1 ?_
        | with_reducible refine blkE0 (by kernel_rfl) ?_
        | with_reducible refine scpN ?_
        | with_reducible refine scpR ?_
        | with_reducible refine scpE ?_
        | with_reducible refine TOps.nil ?_
        | with_reducible exact Conj.nil
        | with_reducible refine Conj.cons rfl ?_
        | with_reducible refine Conj.same ?_
        | with_reducible refine Conj.ask ?_ ?_
        | ((with_reducible refine TOps.any ?_); refine TOps.frunP env (by rfl) (by rfl) ?_ ?_)
        | with_reducible refine Tw.regd env ?_
        | ((with_reducible refine TDr.any ?_); refine TDr.frunP env (by rfl) (by rfl) ?_ ?_)
        | with_reducible refine TDr.nil ⟨by kernel_rfl, ?_⟩
        | ((with_reducible refine TOps.any ?_); refine TOps.strip env (by rfl) (by rfl) ?_ ?_)
        | ((with_reducible refine TOps.any ?_); (fail_if_success refine TOps.known (by rfl) ?_); refine TOps.ask (by rfl) (fun h => ?_) (fun h => ?_) <;> (try simp only [decide_eq_true_eq, decide_eq_false_iff_not, Bool.or_eq_true, Bool.and_eq_true, Bool.or_eq_false_iff, Bool.and_eq_false_iff, Bool.not_eq_true', Bool.not_eq_false', Int.not_lt, Int.not_le, Int.toNat_natCast, Int.toNat_zero] at h) <;> (try simp only [rdi, Int.toNat_natCast] at h))
        | ((with_reducible refine Tw.any ?_); refine Tw.condT (by rfl) ?_)
        | ((with_reducible refine Tw.any ?_); refine Tw.condF (by rfl) ?_)
        | ((with_reducible refine Tw.any ?_); refine Tw.cond (by rfl) (fun h => ?_) (fun h => ?_) <;> (try simp only [decide_eq_true_eq, decide_eq_false_iff_not, Bool.or_eq_true, Bool.and_eq_true, Bool.or_eq_false_iff, Bool.and_eq_false_iff, Bool.not_eq_true', Bool.not_eq_false', Int.not_lt, Int.not_le, Int.toNat_natCast, Int.toNat_zero] at h) <;> (try simp only [rdi, Int.toNat_natCast] at h))
        | ((with_reducible refine tret.any ?_); first | refine tret.ok (by rfl) ?_ | refine tret.okN (by rfl) ?_)
        | ((with_reducible refine Due.mk ?_); (first | with_reducible rfl | omega | assumption | decide | ((try simp only [decide_eq_true_eq, decide_eq_false_iff_not, Bool.or_eq_true, Bool.and_eq_true, Bool.or_eq_false_iff, Bool.and_eq_false_iff, Bool.not_eq_true', Bool.not_eq_false', Int.not_lt, Int.not_le, Int.toNat_natCast, Int.toNat_zero] at *) <;> (try intro h) <;> (try intro h') <;> (try simp only [decide_eq_true_eq, decide_eq_false_iff_not, Bool.or_eq_true, Bool.and_eq_true, Bool.or_eq_false_iff, Bool.and_eq_false_iff, Bool.not_eq_true', Bool.not_eq_false', Int.not_lt, Int.not_le, Int.toNat_natCast, Int.toNat_zero] at *) <;> (try simp only [rdi, Int.toNat_natCast] at *) <;> (try simp only [rng]) <;> omega)))
        | with_reducible refine Due.mk ?_
        | omega)
      exact ⟨rfl, congrArg TV.bool (by simp [h5]), rfl⟩
    · repeat' (first
        | ((with_reducible refine TOps.any ?_); refine TOps.callV env (by rfl) (by rfl) (by rfl) (combine_y a b k (by assumption) (by assumption) h1) ?_)
        | ((with_reducible refine TOps.any ?_); refine TOps.callV env (by rfl) (by rfl) (by rfl) (combine_n b c k (by assumption) (by assumption) h2) ?_)
        | with_reducible refine Tw.seq ?_
        | with_reducible refine Tw.reg ?_
        | with_reducible refine Tw.block ?_
        | with_reducible refine Tw.scope ?_
        | with_reducible refine Tw.skip ?_
        | with_reducible refine Tw.exit ?_
        | with_reducible refine Tw.ret ?_
        | with_reducible refine seqN ?_
        | with_reducible refine seqR ?_
        | with_reducible refine seqE ?_
        | with_reducible refine blkN ?_
        | with_reducible refine blkR ?_
        | with_reducible refine blkE1 ?_
        | with_reducible refine blkE0 (by kernel_rfl) ?_
        | with_reducible refine scpN ?_
        | with_reducible refine scpR ?_
        | with_reducible refine scpE ?_
        | with_reducible refine TOps.nil ?_
        | with_reducible exact Conj.nil
        | with_reducible refine Conj.cons rfl ?_
        | with_reducible refine Conj.same ?_
        | with_reducible refine Conj.ask ?_ ?_
        | ((with_reducible refine TOps.any ?_); refine TOps.frunP env (by rfl) (by rfl) ?_ ?_)
        | with_reducible refine Tw.regd env ?_
        | ((with_reducible refine TDr.any ?_); refine TDr.frunP env (by rfl) (by rfl) ?_ ?_)
        | with_reducible refine TDr.nil ⟨by kernel_rfl, ?_⟩
        | ((with_reducible refine TOps.any ?_); refine TOps.strip env (by rfl) (by rfl) ?_ ?_)
        | ((with_reducible refine TOps.any ?_); (fail_if_success refine TOps.known (by rfl) ?_); refine TOps.ask (by rfl) (fun h => ?_) (fun h => ?_) <;> (try simp only [decide_eq_true_eq, decide_eq_false_iff_not, Bool.or_eq_true, Bool.and_eq_true, Bool.or_eq_false_iff, Bool.and_eq_false_iff, Bool.not_eq_true', Bool.not_eq_false', Int.not_lt, Int.not_le, Int.toNat_natCast, Int.toNat_zero] at h) <;> (try simp only [rdi, Int.toNat_natCast] at h))
        | ((with_reducible refine Tw.any ?_); refine Tw.condT (by rfl) ?_)
        | ((with_reducible refine Tw.any ?_); refine Tw.condF (by rfl) ?_)
        | ((with_reducible refine Tw.any ?_); refine Tw.cond (by rfl) (fun h => ?_) (fun h => ?_) <;> (try simp only [decide_eq_true_eq, decide_eq_false_iff_not, Bool.or_eq_true, Bool.and_eq_true, Bool.or_eq_false_iff, Bool.and_eq_false_iff, Bool.not_eq_true', Bool.not_eq_false', Int.not_lt, Int.not_le, Int.toNat_natCast, Int.toNat_zero] at h) <;> (try simp only [rdi, Int.toNat_natCast] at h))
        | ((with_reducible refine tret.any ?_); first | refine tret.ok (by rfl) ?_ | refine tret.okN (by rfl) ?_)
        | ((with_reducible refine Due.mk ?_); (first | with_reducible rfl | omega | assumption | decide | ((try simp only [decide_eq_true_eq, decide_eq_false_iff_not, Bool.or_eq_true, Bool.and_eq_true, Bool.or_eq_false_iff, Bool.and_eq_false_iff, Bool.not_eq_true', Bool.not_eq_false', Int.not_lt, Int.not_le, Int.toNat_natCast, Int.toNat_zero] at *) <;> (try intro h) <;> (try intro h') <;> (try simp only [decide_eq_true_eq, decide_eq_false_iff_not, Bool.or_eq_true, Bool.and_eq_true, Bool.or_eq_false_iff, Bool.and_eq_false_iff, Bool.not_eq_true', Bool.not_eq_false', Int.not_lt, Int.not_le, Int.toNat_natCast, Int.toNat_zero] at *) <;> (try simp only [rdi, Int.toNat_natCast] at *) <;> (try simp only [rng]) <;> omega)))
        | with_reducible refine Due.mk ?_
        | omega)
      exact ⟨rfl, congrArg TV.bool (by simp), rfl⟩
  · by_cases h2 : combE b c k = 0
    · repeat' (first
        | ((with_reducible refine TOps.any ?_); refine TOps.callV env (by rfl) (by rfl) (by rfl) (combine_n a b k (by assumption) (by assumption) h1) ?_)
        | ((with_reducible refine TOps.any ?_); refine TOps.callV env (by rfl) (by rfl) (by rfl) (combine_y b c k (by assumption) (by assumption) h2) ?_)
        | with_reducible refine Tw.seq ?_
        | with_reducible refine Tw.reg ?_
        | with_reducible refine Tw.block ?_
        | with_reducible refine Tw.scope ?_
        | with_reducible refine Tw.skip ?_
        | with_reducible refine Tw.exit ?_
        | with_reducible refine Tw.ret ?_
        | with_reducible refine seqN ?_
        | with_reducible refine seqR ?_
        | with_reducible refine seqE ?_
        | with_reducible refine blkN ?_
        | with_reducible refine blkR ?_
        | with_reducible refine blkE1 ?_
        | with_reducible refine blkE0 (by kernel_rfl) ?_
        | with_reducible refine scpN ?_
        | with_reducible refine scpR ?_
        | with_reducible refine scpE ?_
        | with_reducible refine TOps.nil ?_
        | with_reducible exact Conj.nil
        | with_reducible refine Conj.cons rfl ?_
        | with_reducible refine Conj.same ?_
        | with_reducible refine Conj.ask ?_ ?_
        | ((with_reducible refine TOps.any ?_); refine TOps.frunP env (by rfl) (by rfl) ?_ ?_)
        | with_reducible refine Tw.regd env ?_
        | ((with_reducible refine TDr.any ?_); refine TDr.frunP env (by rfl) (by rfl) ?_ ?_)
        | with_reducible refine TDr.nil ⟨by kernel_rfl, ?_⟩
        | ((with_reducible refine TOps.any ?_); refine TOps.strip env (by rfl) (by rfl) ?_ ?_)
        | ((with_reducible refine TOps.any ?_); (fail_if_success refine TOps.known (by rfl) ?_); refine TOps.ask (by rfl) (fun h => ?_) (fun h => ?_) <;> (try simp only [decide_eq_true_eq, decide_eq_false_iff_not, Bool.or_eq_true, Bool.and_eq_true, Bool.or_eq_false_iff, Bool.and_eq_false_iff, Bool.not_eq_true', Bool.not_eq_false', Int.not_lt, Int.not_le, Int.toNat_natCast, Int.toNat_zero] at h) <;> (try simp only [rdi, Int.toNat_natCast] at h))
        | ((with_reducible refine Tw.any ?_); refine Tw.condT (by rfl) ?_)
        | ((with_reducible refine Tw.any ?_); refine Tw.condF (by rfl) ?_)
        | ((with_reducible refine Tw.any ?_); refine Tw.cond (by rfl) (fun h => ?_) (fun h => ?_) <;> (try simp only [decide_eq_true_eq, decide_eq_false_iff_not, Bool.or_eq_true, Bool.and_eq_true, Bool.or_eq_false_iff, Bool.and_eq_false_iff, Bool.not_eq_true', Bool.not_eq_false', Int.not_lt, Int.not_le, Int.toNat_natCast, Int.toNat_zero] at h) <;> (try simp only [rdi, Int.toNat_natCast] at h))
        | ((with_reducible refine tret.any ?_); first | refine tret.ok (by rfl) ?_ | refine tret.okN (by rfl) ?_)
        | ((with_reducible refine Due.mk ?_); (first | with_reducible rfl | omega | assumption | decide | ((try simp only [decide_eq_true_eq, decide_eq_false_iff_not, Bool.or_eq_true, Bool.and_eq_true, Bool.or_eq_false_iff, Bool.and_eq_false_iff, Bool.not_eq_true', Bool.not_eq_false', Int.not_lt, Int.not_le, Int.toNat_natCast, Int.toNat_zero] at *) <;> (try intro h) <;> (try intro h') <;> (try simp only [decide_eq_true_eq, decide_eq_false_iff_not, Bool.or_eq_true, Bool.and_eq_true, Bool.or_eq_false_iff, Bool.and_eq_false_iff, Bool.not_eq_true', Bool.not_eq_false', Int.not_lt, Int.not_le, Int.toNat_natCast, Int.toNat_zero] at *) <;> (try simp only [rdi, Int.toNat_natCast] at *) <;> (try simp only [rng]) <;> omega)))
        | with_reducible refine Due.mk ?_
        | omega)
      exact ⟨rfl, congrArg TV.bool (by simp), rfl⟩
    · repeat' (first
        | ((with_reducible refine TOps.any ?_); refine TOps.callV env (by rfl) (by rfl) (by rfl) (combine_n a b k (by assumption) (by assumption) h1) ?_)
        | ((with_reducible refine TOps.any ?_); refine TOps.callV env (by rfl) (by rfl) (by rfl) (combine_n b c k (by assumption) (by assumption) h2) ?_)
        | with_reducible refine Tw.seq ?_
        | with_reducible refine Tw.reg ?_
        | with_reducible refine Tw.block ?_
        | with_reducible refine Tw.scope ?_
        | with_reducible refine Tw.skip ?_
        | with_reducible refine Tw.exit ?_
        | with_reducible refine Tw.ret ?_
        | with_reducible refine seqN ?_
        | with_reducible refine seqR ?_
        | with_reducible refine seqE ?_
        | with_reducible refine blkN ?_
        | with_reducible refine blkR ?_
        | with_reducible refine blkE1 ?_
        | with_reducible refine blkE0 (by kernel_rfl) ?_
        | with_reducible refine scpN ?_
        | with_reducible refine scpR ?_
        | with_reducible refine scpE ?_
        | with_reducible refine TOps.nil ?_
        | with_reducible exact Conj.nil
        | with_reducible refine Conj.cons rfl ?_
        | with_reducible refine Conj.same ?_
        | with_reducible refine Conj.ask ?_ ?_
        | ((with_reducible refine TOps.any ?_); refine TOps.frunP env (by rfl) (by rfl) ?_ ?_)
        | with_reducible refine Tw.regd env ?_
        | ((with_reducible refine TDr.any ?_); refine TDr.frunP env (by rfl) (by rfl) ?_ ?_)
        | with_reducible refine TDr.nil ⟨by kernel_rfl, ?_⟩
        | ((with_reducible refine TOps.any ?_); refine TOps.strip env (by rfl) (by rfl) ?_ ?_)
        | ((with_reducible refine TOps.any ?_); (fail_if_success refine TOps.known (by rfl) ?_); refine TOps.ask (by rfl) (fun h => ?_) (fun h => ?_) <;> (try simp only [decide_eq_true_eq, decide_eq_false_iff_not, Bool.or_eq_true, Bool.and_eq_true, Bool.or_eq_false_iff, Bool.and_eq_false_iff, Bool.not_eq_true', Bool.not_eq_false', Int.not_lt, Int.not_le, Int.toNat_natCast, Int.toNat_zero] at h) <;> (try simp only [rdi, Int.toNat_natCast] at h))
        | ((with_reducible refine Tw.any ?_); refine Tw.condT (by rfl) ?_)
        | ((with_reducible refine Tw.any ?_); refine Tw.condF (by rfl) ?_)
        | ((with_reducible refine Tw.any ?_); refine Tw.cond (by rfl) (fun h => ?_) (fun h => ?_) <;> (try simp only [decide_eq_true_eq, decide_eq_false_iff_not, Bool.or_eq_true, Bool.and_eq_true, Bool.or_eq_false_iff, Bool.and_eq_false_iff, Bool.not_eq_true', Bool.not_eq_false', Int.not_lt, Int.not_le, Int.toNat_natCast, Int.toNat_zero] at h) <;> (try simp only [rdi, Int.toNat_natCast] at h))
        | ((with_reducible refine tret.any ?_); first | refine tret.ok (by rfl) ?_ | refine tret.okN (by rfl) ?_)
        | ((with_reducible refine Due.mk ?_); (first | with_reducible rfl | omega | assumption | decide | ((try simp only [decide_eq_true_eq, decide_eq_false_iff_not, Bool.or_eq_true, Bool.and_eq_true, Bool.or_eq_false_iff, Bool.and_eq_false_iff, Bool.not_eq_true', Bool.not_eq_false', Int.not_lt, Int.not_le, Int.toNat_natCast, Int.toNat_zero] at *) <;> (try intro h) <;> (try intro h') <;> (try simp only [decide_eq_true_eq, decide_eq_false_iff_not, Bool.or_eq_true, Bool.and_eq_true, Bool.or_eq_false_iff, Bool.and_eq_false_iff, Bool.not_eq_true', Bool.not_eq_false', Int.not_lt, Int.not_le, Int.toNat_natCast, Int.toNat_zero] at *) <;> (try simp only [rdi, Int.toNat_natCast] at *) <;> (try simp only [rng]) <;> omega)))
        | with_reducible refine Due.mk ?_
        | omega)
      exact ⟨rfl, congrArg TV.bool (by simp), rfl⟩
end Go.Proofs.Ytfgaefpdccdfiaa
