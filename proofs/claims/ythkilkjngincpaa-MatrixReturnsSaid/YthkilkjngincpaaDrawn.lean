/- The reference's bitmap of given pixels. -/
import Derived.Test.YthkilkjngincpaaBits1
import Derived.Test.YthkilkjngincpaaXMatrixReturns0
import Derived.Test.YthkilkjngincpaaGo
namespace Go.Proofs.Ythkilkjngincpaa
open Go Go.Lite
set_option linter.unusedVariables false
set_option linter.unusedSimpArgs false
set_option maxRecDepth 100000
set_option maxHeartbeats 4000000
-- @simp rdi rdy rdo

theorem drawn_c (w k : Nat) (on : List Bool) (hw : Due (1 ≤ w ∧ w ≤ 1024)) (hk : Due (1 ≤ k ∧ k ≤ 1024)) (hl : Due (on.length = w * k)) :
    TC R Try.prog R2_Drawn_f [.int .i64 w, .int .i64 k, .lst Eo on] [] (fun v X => v = .agg [.int .i64 w, .int .i64 k, .lst Ey (bm w k fun x y => on.getD (y * w + x) false)] ∧ X = []) := by
  dsimp only [Due] at hw hk hl
  have hlb := len_bd hw hk
  have sb := st_bd hw
  have hwk : w * k ≤ 1024 * 1024 := Nat.mul_le_mul hw.2 hk.2
  have e0 : quo ((w : Int) + 7) 8 = (st w : Int) := by rw [quo_nn (by omega)]; unfold st; omega
  have e1 : (st w : Int) * (k : Int) = ((st w * k : Nat) : Int) := by simp
  refine tc0 env R2_Drawn_s (by rfl) ?_
  dsimp only [R2_Drawn_c]
  repeat' (first
    | refine GZy_i_y_o (And.intro e0 e1) ?_ ?_ ?_ ?_ ?_ ?_ ?_ ?_
    | with_reducible first | exact BzZq.mk | refine Tw.ret ?_ | refine ImZq.i fun h => ?_ | refine IkZq.i fun hk => ?_)
  refine Tw.loopK [0, 1, 21, 22] (fun i : Nat => i ≤ w * k) (fun i => w * k - i) (fun i => [(23, .int .i64 i), (8, .ptr 2 0), (7, .int .i64 (st w)), (6, .ptr 0 0)])
    (fun i => [some (.cells [.int .i64 0, .int .i64 0, .nils]), some (.arr Ey (bm w k fun x y => decide (y * w + x < i) && on.getD (y * w + x) false)), some (.cells [.int .i64 w, .int .i64 k, .sla 1 1 0 (st w * k)])])
    ⟨0, by omega, TWk.fcanon env [some 0, some 1, some 2] (by rfl) ?_⟩ (fun i hi => ?_)
  · repeat' (first
      | with_reducible first | exact Conj.nil | refine Conj.cons rfl ?_ | refine Conj.same ?_ | refine Conj.ask ?_ ?_
      | ((with_reducible refine Due.mk ?_); (first | with_reducible rfl | omega | assumption | decide | ((try simp only [goS] at *) <;> (try intro h) <;> (try intro h') <;> (try simp only [goS] at *) <;> (try simp only [rdi, rdy, rdo, e0, e1, Int.toNat_natCast, Nat.add_zero] at *) <;> (try simp only [rng]) <;> (first | assumption | omega)) | (exact due_app0 (by omega)) | (exact due_app (by omega)) | (intros; simp; done) | (intros; simp; omega)))
      | with_reducible refine Due.mk ?_
      | omega)
    show bm w k (fun x y => decide (y * w + x < 0) && on.getD (y * w + x) false) = List.replicate (quo ((w : Int) + 7) 8 * (k : Int)).toNat 0
    rw [e0, e1, Int.toNat_natCast, ← bm_blank]
    exact bm_congr fun x y hx hy => by rw [decide_eq_false (by omega)]; rfl
  rcases Nat.lt_or_ge i (w * k) with hi | hi
  · obtain ⟨a, ha⟩ : ∃ a, a = i % w := ⟨_, rfl⟩
    obtain ⟨b, hb⟩ : ∃ b, b = i / w := ⟨_, rfl⟩
    have haw : a < w := by rw [ha]; exact Nat.mod_lt _ (by omega)
    have hbk : b < k := by rw [hb]; exact Nat.div_lt_of_lt_mul hi
    have hab : b * w + a = i := by rw [ha, hb, Nat.mul_comm]; exact Nat.div_add_mod i w
    have q1 : quo (i : Int) (w : Int) = (b : Int) := by rw [quo_nn (by omega), hb]; simp
    have q2 : rem (i : Int) (w : Int) = (a : Int) := by rw [rem_nn (by omega), ha]; simp
    have q3 : quo (a : Int) 8 = ((a / 8 : Nat) : Int) := by rw [quo_nn (by omega)]; omega
    have q4 : rem (a : Int) 8 = ((a % 8 : Nat) : Int) := by rw [rem_nn (by omega)]; omega
    have q5 : (b : Int) * (st w : Int) + ((a / 8 : Nat) : Int) = ((at8 w a b : Nat) : Int) := by unfold at8; simp
    have hl8 := at8_lt haw hbk
    have q6 : 0 ≤ (b : Int) * (st w : Int) ∧ (b : Int) * (st w : Int) ≤ ((at8 w a b : Nat) : Int) := ⟨Int.mul_nonneg (by omega) (by omega), by omega⟩
    have q7 : (0 : Int) ≤ (128 : Int) / 2 ^ (a % 8) ∧ (128 : Int) / 2 ^ (a % 8) ≤ 255 := by
      rw [sh_pow (by omega)]
      have h7 : (2 : Nat) ^ (7 - a % 8) ≤ 2 ^ 7 := Nat.pow_le_pow_right (by omega) (by omega)
      generalize (2 : Nat) ^ (7 - a % 8) = m at *
      omega
    have hmark := bm_mark (f := fun x y => decide (y * w + x < i) && on.getD (y * w + x) false) haw hbk
    have hbd := bm_bd (w := w) (h := k) (f := fun x y => decide (y * w + x < i) && on.getD (y * w + x) false) hl8
    have hbl := bm_len (w := w) (h := k) (f := fun x y => decide (y * w + x < i) && on.getD (y * w + x) false)
    have next : bm w k (fun x y => decide (y * w + x < i + 1) && on.getD (y * w + x) false) = if on.getD i false then bm w k (fun i_1 j => (decide (j * w + i_1 < i) && on.getD (j * w + i_1) false) || (decide (i_1 = a) && decide (j = b))) else bm w k (fun x y => decide (y * w + x < i) && on.getD (y * w + x) false) := by
      have key : ∀ x y, x < w → (y * w + x = i ↔ x = a ∧ y = b) := fun x y hx => by
        constructor
        · intro e
          subst e
          rw [Nat.mul_comm y w] at ha hb
          rw [Nat.mul_add_mod, Nat.mod_eq_of_lt hx] at ha
          rw [Nat.mul_add_div (by omega), Nat.div_eq_of_lt hx] at hb
          exact ⟨ha.symm, by omega⟩
        · rintro ⟨rfl, rfl⟩; exact hab
      split
      · rename_i hon
        refine bm_congr fun x y hx hy => ?_
        by_cases e : y * w + x = i
        · obtain ⟨e1, e2⟩ := (key x y hx).1 e
          rw [e, hon, decide_eq_true (show i < i + 1 by omega), decide_eq_true e1, decide_eq_true e2]; simp
        · have hne : (decide (x = a) && decide (y = b)) = false := by
            rw [Bool.and_eq_false_iff, decide_eq_false_iff_not, decide_eq_false_iff_not]
            exact Decidable.not_and_iff_or_not.1 fun hh => e ((key x y hx).2 hh)
          rw [hne, Bool.or_false]
          congr 1
          exact decide_eq_decide.2 (by omega)
      · rename_i hon
        refine bm_congr fun x y hx hy => ?_
        by_cases e : y * w + x = i
        · rw [e]; simp at hon ⊢; exact hon
        · congr 1
          exact decide_eq_decide.2 (by omega)
    generalize bm w k (fun x y => decide (y * w + x < i) && on.getD (y * w + x) false) = D at *
    repeat' (first
      | refine GZy_i_y_o (And.intro q1 (And.intro q2 (And.intro q3 (And.intro q4 (And.intro q5 (And.intro hl hbl)))))) ?_ ?_ ?_ ?_ ?_ ?_ ?_ ?_
      | with_reducible first | exact BzZq.mk | refine Tw.ret ?_ | refine ImZq.i fun h => ?_ | refine IkZq.i fun hk => ?_)
    · refine ⟨i + 1, by omega, by omega, TWk.fcanon env [some 0, some 1, some 2] (by rfl) ?_⟩
      repeat' (first
        | with_reducible first | exact Conj.nil | refine Conj.cons rfl ?_ | refine Conj.same ?_ | refine Conj.ask ?_ ?_
        | ((with_reducible refine Due.mk ?_); (first | with_reducible rfl | omega | assumption | decide | ((try simp only [goS] at *) <;> (try intro h) <;> (try intro h') <;> (try simp only [goS] at *) <;> (try simp only [rdi, rdy, rdo, Int.toNat_natCast, Nat.add_zero] at *) <;> (try simp only [rng]) <;> (first | assumption | omega)) | (exact due_app0 (by omega)) | (exact due_app (by omega)) | (intros; simp; done) | (intros; simp; omega)))
        | with_reducible refine Due.mk ?_
        | omega)
      rw [next, if_pos h]
      show _ = D.set (quo (i : Int) w * (st w : Int) + quo (rem (i : Int) w) 8).toNat (bor (D.getD (quo (i : Int) w * (st w : Int) + quo (rem (i : Int) w) 8).toNat 0) ((128 : Int) / 2 ^ (rem (rem (i : Int) w) 8).toNat))
      rw [q2, q4, q3, q1, q5, Int.toNat_natCast, Int.toNat_natCast]
      exact hmark.symm
    · refine ⟨i + 1, by omega, by omega, TWk.fcanon env [some 0, some 1, some 2] (by rfl) ?_⟩
      repeat' (first
        | with_reducible first | exact Conj.nil | refine Conj.cons rfl ?_ | refine Conj.same ?_ | refine Conj.ask ?_ ?_
        | ((with_reducible refine Due.mk ?_); (first | with_reducible rfl | omega | assumption | decide | ((try simp only [goS] at *) <;> (try intro h) <;> (try intro h') <;> (try simp only [goS] at *) <;> (try simp only [rdi, rdy, rdo, Int.toNat_natCast, Nat.add_zero] at *) <;> (try simp only [rng]) <;> (first | assumption | omega)) | (exact due_app0 (by omega)) | (exact due_app (by omega)) | (intros; simp; done) | (intros; simp; omega)))
        | with_reducible refine Due.mk ?_
        | omega)
      rw [next, if_neg (by rw [h]; simp)]
  · obtain rfl : i = w * k := by omega
    have hle : 0 + st w * k ≤ (bm w k fun x y => decide (y * w + x < w * k) && on.getD (y * w + x) false).length := by rw [bm_len]; omega
    repeat' (first
      | exact hle
      | ((with_reducible refine Tw.retI ?_); refine Tw.frz env 1 (by rfl) (by rfl) (by rfl) ?_ ?_ (Tw.ret ?_))
      | refine GZy_i_y_o hl ?_ ?_ ?_ ?_ ?_ ?_ ?_ ?_
      | with_reducible first | exact BzZq.mk | refine Tw.ret ?_ | refine ImZq.i fun h => ?_ | refine IkZq.i fun hk => ?_)
    rw [cut_all bm_len.symm]
    refine ⟨rfl, ?_, rfl⟩
    rw [bm_congr (g := fun x y => on.getD (y * w + x) false) fun x y hx hy => ?_]
    rw [decide_eq_true, Bool.true_and]
    have : (y + 1) * w ≤ k * w := Nat.mul_le_mul_right _ hy
    rw [Nat.mul_comm w k]
    rw [Nat.add_mul] at this
    omega
end Go.Proofs.Ythkilkjngincpaa
