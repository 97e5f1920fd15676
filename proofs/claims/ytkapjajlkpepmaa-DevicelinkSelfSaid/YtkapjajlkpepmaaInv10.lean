/- Inverse: questions are checked; Quick. -/
import Derived.Test.YtkapjajlkpepmaaInv9
import Derived.Test.YtkapjajlkpepmaaGo
namespace Go.Proofs.Ytkapjajlkpepmaa
open Go Go.Lite
set_option linter.unusedVariables false
set_option linter.unusedSimpArgs false
set_option maxRecDepth 100000
set_option maxHeartbeats 4000000
-- @simp rdi rd2i rdL2iJ

def stepOk (s : Int) : Prop := s = 5 ∨ s = 15 ∨ s = 17 ∨ s = 51 ∨ s = 85 ∨ s = 255
instance (s : Int) : Decidable (stepOk s) := by unfold stepOk; infer_instance
def cnt (s : Int) : Nat := (255 / s + 1).toNat
noncomputable def askE (n : Nat) (q : Ask) : Int :=
  if labE q.tl q.ta q.tb ≠ 0 then labE q.tl q.ta q.tb else if ¬ stepOk q.st then 3 else if q.tot < 0 ∨ 2040 < q.tot then 3
  else if tonesE q.lo n ≠ 0 then tonesE q.lo n else if tonesE q.hi n ≠ 0 then tonesE q.hi n else if 20000 < cnt q.st ^ n then 2 else 0
structure AskOk (n : Nat) (q : Ask) : Prop where
  lab : labOk q.tl q.ta q.tb
  st : stepOk q.st
  tot : 0 ≤ q.tot ∧ q.tot ≤ 2040
  lo : tonesE q.lo n = 0
  hi : tonesE q.hi n = 0
theorem askE_ok {n : Nat} {q : Ask} (h : askE n q = 0) : AskOk n q := by
  unfold askE at h
  by_cases h1 : labE q.tl q.ta q.tb ≠ 0
  · rw [if_pos h1] at h; exact absurd h h1
  rw [if_neg h1] at h
  by_cases h2 : ¬ stepOk q.st
  · rw [if_pos h2] at h; omega
  rw [if_neg h2] at h
  by_cases h3 : q.tot < 0 ∨ 2040 < q.tot
  · rw [if_pos h3] at h; omega
  rw [if_neg h3] at h
  by_cases h4 : tonesE q.lo n ≠ 0
  · rw [if_pos h4] at h; exact absurd h h4
  rw [if_neg h4] at h
  by_cases h5 : tonesE q.hi n ≠ 0
  · rw [if_pos h5] at h; exact absurd h h5
  exact ⟨labE_ok.1 (by simpa using h1), by simpa using h2, by omega, by simpa using h4, by simpa using h5⟩
theorem pow_step {c n i : Nat} (hc : 1 ≤ c ∧ c ≤ 52) (hi : i < n) (hn : n ≤ 4) : c ^ i ≤ 7311616 ∧ c ^ (i + 1) = c ^ i * c := by
  refine ⟨?_, Nat.pow_succ ..⟩
  calc c ^ i ≤ 52 ^ i := Nat.pow_le_pow_left hc.2 i
    _ ≤ 52 ^ 4 := Nat.pow_le_pow_right (by omega) (by omega)
    _ = 7311616 := by decide
theorem askCheck_c (n : Nat) (q : Ask) (hn : Due (1 ≤ n ∧ n ≤ 4)) (hl : Due (q.lo.length ≤ 9223372036854775807)) (hh : Due (q.hi.length ≤ 9223372036854775807)) :
    TC R Try.prog inverse_Check_f [.int .i64 n, .agg (encA q)] [] (fun v X => v = .int .i64 (askE n q) ∧ X = []) := by
  dsimp only [Due] at hn hl hh
  have rc := refCheck_c q.tl q.ta q.tb
  have t1 := tones_c q.lo n hl
  have t2 := tones_c q.hi n hh
  refine tc0 env inverse_Check_s (by rfl) ?_
  dsimp only [inverse_Check_c, encA]
  by_cases h1 : labE q.tl q.ta q.tb ≠ 0
  · repeat' (first
      | ((with_reducible refine TOps.any ?_); refine TOps.callV env (by rfl) (by rfl) (by rfl) (rc) ?_)
      | refine GZp_i_2i_L2iJ ?_ ?_ ?_ ?_ ?_ ?_ ?_ ?_
      | with_reducible first | exact BzZq.mk | refine Tw.ret ?_ | refine ImZq.i fun h => ?_ | refine IkZq.i fun hk => ?_)
    exact ⟨rfl, by rw [askE, if_pos h1], rfl⟩
  rw [show labE q.tl q.ta q.tb = 0 by simpa using h1] at rc
  by_cases h2 : stepOk q.st
  · have h2' := h2
    have hs : ∃ s : Nat, q.st = s ∧ (s = 5 ∨ s = 15 ∨ s = 17 ∨ s = 51 ∨ s = 85 ∨ s = 255) := by unfold stepOk at h2; exact ⟨q.st.toNat, by omega, by omega⟩
    obtain ⟨s, es, hs⟩ := hs
    have ec : quo 255 (s : Int) + 1 = (cnt q.st : Nat) := by
      rw [es]
      rcases hs with rfl | rfl | rfl | rfl | rfl | rfl <;> decide
    have cb : 1 ≤ cnt q.st ∧ cnt q.st ≤ 52 := by
      rw [es]
      rcases hs with rfl | rfl | rfl | rfl | rfl | rfl <;> decide
    have dq : rng .i64 (quo 255 (s : Int)) := by
      simp only [rng]
      rcases hs with rfl | rfl | rfl | rfl | rfl | rfl <;> decide
    have fin : ∀ y, (if q.tot < 0 ∨ 2040 < q.tot then 3
      else if tonesE q.lo n ≠ 0 then tonesE q.lo n else if tonesE q.hi n ≠ 0 then tonesE q.hi n else if 20000 < cnt q.st ^ n then (2 : Int) else 0) = y → y = askE n q := fun y e => by rw [askE, if_neg h1, if_neg (show ¬ ¬ stepOk q.st from fun h => h h2'), e]
    generalize hcn : cnt q.st = c at *
    have pe : ∀ i, i < n → c ^ i ≤ 7311616 ∧ c ^ (i + 1) = c ^ i * c := fun i hi => pow_step cb hi hn.2
    have pm : ∀ i, i < n → ((c ^ (i + 1) : Nat) : Int) = ((c ^ i : Nat) : Int) * (c : Int) ∧ ((c ^ i : Nat) : Int) * (c : Int) ≤ 400000000 := fun i hi => by
      have h := pe i hi
      have h2 : c ^ i * c ≤ 7311616 * 52 := Nat.mul_le_mul h.1 cb.2
      rw [h.2, ← Int.natCast_mul]
      exact ⟨rfl, by omega⟩
    clear hcn
    rw [es]
    by_cases h3 : q.tot < 0 ∨ 2040 < q.tot
    · rw [if_pos h3] at fin
      rcases hs with rfl | rfl | rfl | rfl | rfl | rfl
      all_goals
        repeat' (first
          | ((with_reducible refine TOps.any ?_); refine TOps.callV env (by rfl) (by rfl) (by rfl) (rc) ?_)
          | exact dq
          | refine GZy_i_2i_L2iJ ec ?_ ?_ ?_ ?_ ?_ ?_ ?_ ?_
          | with_reducible first | exact BzZq.mk | refine Tw.ret ?_ | refine ImZq.i fun h => ?_ | refine IkZq.i fun hk => ?_)
        all_goals exact ⟨rfl, by rw [← fin _ rfl], rfl⟩
    by_cases h4 : tonesE q.lo n ≠ 0
    · rw [if_neg h3, if_pos h4] at fin
      rcases hs with rfl | rfl | rfl | rfl | rfl | rfl
      all_goals
        repeat' (first
          | ((with_reducible refine TOps.any ?_); refine TOps.callV env (by rfl) (by rfl) (by rfl) (rc) ?_)
          | ((with_reducible refine TOps.any ?_); refine TOps.callV env (by rfl) (by rfl) (by rfl) (t1) ?_)
          | exact dq
          | refine GZy_i_2i_L2iJ ec ?_ ?_ ?_ ?_ ?_ ?_ ?_ ?_
          | with_reducible first | exact BzZq.mk | refine Tw.ret ?_ | refine ImZq.i fun h => ?_ | refine IkZq.i fun hk => ?_)
        all_goals exact ⟨rfl, by rw [← fin _ rfl], rfl⟩
    rw [show tonesE q.lo n = 0 by simpa using h4] at t1
    by_cases h5 : tonesE q.hi n ≠ 0
    · rw [if_neg h3, if_neg h4, if_pos h5] at fin
      rcases hs with rfl | rfl | rfl | rfl | rfl | rfl
      all_goals
        repeat' (first
          | ((with_reducible refine TOps.any ?_); refine TOps.callV env (by rfl) (by rfl) (by rfl) (rc) ?_)
          | ((with_reducible refine TOps.any ?_); refine TOps.callV env (by rfl) (by rfl) (by rfl) (t1) ?_)
          | ((with_reducible refine TOps.any ?_); refine TOps.callV env (by rfl) (by rfl) (by rfl) (t2) ?_)
          | exact dq
          | refine GZy_i_2i_L2iJ ec ?_ ?_ ?_ ?_ ?_ ?_ ?_ ?_
          | with_reducible first | exact BzZq.mk | refine Tw.ret ?_ | refine ImZq.i fun h => ?_ | refine IkZq.i fun hk => ?_)
        all_goals exact ⟨rfl, by rw [← fin _ rfl], rfl⟩
    rw [show tonesE q.hi n = 0 by simpa using h5] at t2
    rw [if_neg h3, if_neg h4, if_neg h5] at fin
    rcases hs with rfl | rfl | rfl | rfl | rfl | rfl
    all_goals
      repeat' (first
        | ((with_reducible refine TOps.any ?_); refine TOps.callV env (by rfl) (by rfl) (by rfl) (rc) ?_)
        | ((with_reducible refine TOps.any ?_); refine TOps.callV env (by rfl) (by rfl) (by rfl) (t1) ?_)
        | ((with_reducible refine TOps.any ?_); refine TOps.callV env (by rfl) (by rfl) (by rfl) (t2) ?_)
        | exact dq
        | refine GZy_i_2i_L2iJ ec ?_ ?_ ?_ ?_ ?_ ?_ ?_ ?_
        | with_reducible first | exact BzZq.mk | refine Tw.ret ?_ | refine ImZq.i fun h => ?_ | refine IkZq.i fun hk => ?_)
      rw [ec]
      refine Tw.loopK [6, 57] (fun i : Nat => i ≤ n) (fun i => n - i) (fun i => [(58, .int .i64 i), (9, .int .i64 (c ^ i : Nat))]) (fun _ => []) ⟨0, by omega, TWk.fcanon env [] (by rfl) ?_⟩ (fun i hi => ?_)
      · repeat' (first
          | with_reducible first | exact Conj.nil | refine Conj.cons rfl ?_ | refine Conj.same ?_ | refine Conj.ask ?_ ?_
          | ((with_reducible refine Due.mk ?_); (first | with_reducible rfl | omega | assumption | decide | ((try simp only [goS] at *) <;> (try intro h) <;> (try intro h') <;> (try simp only [goS] at *) <;> (try simp only [rdi, rd2i, rdL2iJ, Int.toNat_natCast, Nat.add_zero] at *) <;> (try simp only [rng]) <;> (first | assumption | omega)) | (exact due_app0 (by omega)) | (exact due_app (by omega)) | (intros; simp; done) | (intros; simp; omega)))
          | with_reducible refine Due.mk ?_
          | omega)
      rcases Nat.lt_or_ge i n with hi2 | hi2
      · have p1 := pm i hi2
        have p0 : (0 : Int) ≤ ((c ^ i : Nat) : Int) * (c : Int) := by omega
        repeat' (first
          | refine GZp_i_2i_L2iJ ?_ ?_ ?_ ?_ ?_ ?_ ?_ ?_
          | with_reducible first | exact BzZq.mk | refine Tw.ret ?_ | refine ImZq.i fun h => ?_ | refine IkZq.i fun hk => ?_)
        refine ⟨i + 1, by omega, by omega, TWk.fcanon env [] (by rfl) ?_⟩
        repeat' (first
          | exact p1.1
          | with_reducible first | exact Conj.nil | refine Conj.cons rfl ?_ | refine Conj.same ?_ | refine Conj.ask ?_ ?_
          | ((with_reducible refine Due.mk ?_); (first | with_reducible rfl | omega | assumption | decide | ((try simp only [goS] at *) <;> (try intro h) <;> (try intro h') <;> (try simp only [goS] at *) <;> (try simp only [rdi, rd2i, rdL2iJ, Int.toNat_natCast, Nat.add_zero] at *) <;> (try simp only [rng]) <;> (first | assumption | omega)) | (exact due_app0 (by omega)) | (exact due_app (by omega)) | (intros; simp; done) | (intros; simp; omega)))
          | with_reducible refine Due.mk ?_
          | omega)
      obtain rfl : i = n := by omega
      by_cases h6 : 20000 < c ^ i
      · rw [if_pos h6] at fin
        repeat' (first
          | refine GZp_i_2i_L2iJ ?_ ?_ ?_ ?_ ?_ ?_ ?_ ?_
          | with_reducible first | exact BzZq.mk | refine Tw.ret ?_ | refine ImZq.i fun h => ?_ | refine IkZq.i fun hk => ?_)
        all_goals exact ⟨rfl, by rw [← fin _ rfl], rfl⟩
      · rw [if_neg h6] at fin
        repeat' (first
          | refine GZp_i_2i_L2iJ ?_ ?_ ?_ ?_ ?_ ?_ ?_ ?_
          | with_reducible first | exact BzZq.mk | refine Tw.ret ?_ | refine ImZq.i fun h => ?_ | refine IkZq.i fun hk => ?_)
        all_goals exact ⟨rfl, by rw [← fin _ rfl], rfl⟩
  · have h3 : ¬ stepOk q.st := h2
    unfold stepOk at h3
    repeat' (first
      | ((with_reducible refine TOps.any ?_); refine TOps.callV env (by rfl) (by rfl) (by rfl) (rc) ?_)
      | refine GZp_i_2i_L2iJ ?_ ?_ ?_ ?_ ?_ ?_ ?_ ?_
      | with_reducible first | exact BzZq.mk | refine Tw.ret ?_ | refine ImZq.i fun h => ?_ | refine IkZq.i fun hk => ?_)
    exact ⟨rfl, by rw [askE, if_neg h1, if_pos h2], rfl⟩
end Go.Proofs.Ytkapjajlkpepmaa
