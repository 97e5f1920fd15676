/- Compressed bitmaps: a file is cut into its stripes. -/
import Derived.Test.YtjedljdfkoagbaaBl9
import Derived.Test.YtjedljdfkoagbaaGo
namespace Go.Proofs.Ytjedljdfkoagbaa
open Go Go.Lite
set_option linter.unusedVariables false
set_option linter.unusedSimpArgs false
set_option maxRecDepth 100000
set_option maxHeartbeats 4000000
-- @simp rdi rdy

theorem genB_mono {w h r : Nat} {Q : Nat → List Int} {k m : Nat} (hk : k ≤ m) : ∃ T, genB w h r Q m = genB w h r Q k ++ T := by
  induction m with
  | zero => exact ⟨[], by obtain rfl : k = 0 := by omega
                          simp⟩
  | succ m ih =>
    rcases Nat.lt_or_ge k (m + 1) with h1 | h1
    · obtain ⟨T, hT⟩ := ih (by omega)
      exact ⟨T ++ recB (Q m), by simp only [genB]; rw [hT, List.append_assoc]⟩
    · obtain rfl : k = m + 1 := by omega
      exact ⟨[], by simp⟩
/-- What is left behind the first stripes. -/
def lft (w h r : Nat) (Q : Nat → List Int) (m k : Nat) : List Int := (genB w h r Q m).drop (genB w h r Q k).length
theorem lft_step {w h r : Nat} {Q : Nat → List Int} {k m : Nat} (hk : k < m) : lft w h r Q m k = recB (Q k) ++ lft w h r Q m (k + 1) := by
  obtain ⟨T, hT⟩ := genB_mono (w := w) (h := h) (r := r) (Q := Q) (show k + 1 ≤ m from hk)
  have e1 : lft w h r Q m (k + 1) = T := by unfold lft; rw [hT, List.drop_left]
  rw [e1]
  unfold lft
  rw [hT]
  simp only [genB]
  rw [List.append_assoc, List.drop_left]
theorem lft_end {w h r : Nat} {Q : Nat → List Int} {m : Nat} : lft w h r Q m m = [] := by unfold lft; simp
theorem bor16 {a b : Nat} (hb : b < 65536) : bor ((a : Int) * 2 ^ Int.toNat 16) (b : Int) = ((a * 65536 + b : Nat) : Int) := by
  have e : (a : Int) * 2 ^ Int.toNat 16 = ((2 ^ 16 * a : Nat) : Int) := by
    show (a : Int) * 65536 = _
    omega
  have h := Nat.two_pow_add_eq_or_of_lt (i := 16) (b := b) (by omega) a
  rw [e]
  unfold bor
  rw [Int.toNat_natCast, Int.toNat_natCast, ← h]
  omega

theorem cut_c (w y r : Nat) (Q : Nat → List Int) (m : Nat) (hw : 1 ≤ w ∧ w ≤ 1024) (hy : 1 ≤ y ∧ y ≤ 1024) (hr : 1 ≤ r ∧ r ≤ 64) (hm : m = (y + r - 1) / r) (hl : (genB w y r Q m).length ≤ 1048576) :
    TC R Try.prog bilevel_cut_f [.lst Ey (genB w y r Q m)] [] (fun v X => v = .tup [.agg [.int .i64 w, .int .i64 y, .int .i64 r, .lst ELyJ (tab m Q)], .int .i64 0] ∧ X = []) := by
  obtain ⟨T, hT⟩ := genB_mono (w := w) (h := y) (r := r) (Q := Q) (show 0 ≤ m by omega)
  have eT : lft w y r Q m 0 = T := by unfold lft; rw [hT, List.drop_left]
  have eD : genB w y r Q m = ((w / 256 % 256 : Nat) : Int) :: ((w % 256 : Nat) : Int) :: ((y / 256 % 256 : Nat) : Int) :: ((y % 256 : Nat) : Int) :: (r : Int) :: T := hT
  obtain ⟨D, hD⟩ : ∃ D, D = genB w y r Q m := ⟨_, rfl⟩
  rw [← hD] at hl eD ⊢
  have h5 : 5 ≤ D.length := by rw [eD]; simp only [List.length_cons]; omega
  have g1 := get16_c D (w / 256 % 256) (w % 256) (by omega) (by omega) (by omega) (by rw [eD]; rfl) (by rw [eD]; rfl)
  have g2 := get16_c (List.drop (Int.toNat 2) D) (y / 256 % 256) (y % 256) (by rw [List.length_drop, show Int.toNat 2 = 2 from rfl]; omega) (by omega) (by omega) (by rw [eD]; rfl) (by rw [eD]; rfl)
  rw [show w / 256 % 256 * 256 + w % 256 = w by omega] at g1
  rw [show y / 256 % 256 * 256 + y % 256 = y by omega] at g2
  have g4 : D.getD (Int.toNat 4) (R.d Ey) = (r : Int) := by rw [eD]; rfl
  have gT : List.drop (Int.toNat 5) D = T := by rw [eD]; rfl
  have z1 : rng .i64 (D.getD (Int.toNat 4) (R.d Ey)) := by rw [g4]; exact ⟨by omega, by omega⟩
  have qm : quo ((y : Int) + (r : Int) - 1) (r : Int) = (m : Int) := by
    rw [quo_nn (by omega), hm]
    have : (y : Int) + (r : Int) - 1 = ((y + r - 1 : Nat) : Int) := by omega
    rw [this]; exact (Int.natCast_ediv _ _).symm
  have mb : m ≤ 1087 := by
    rw [hm]
    exact Nat.le_trans (Nat.div_le_self _ _) (by omega)
  have z3 : rng .i64 (quo ((y : Int) + (r : Int) - 1) (r : Int)) := by rw [qm]; exact ⟨by omega, by omega⟩
  refine tc0 env bilevel_cut_s (by rfl) ?_
  dsimp only [bilevel_cut_c]
  have g4b : D.getD (Int.toNat 4) 0 = (r : Int) := g4
  have z3b : rng .i64 (quo ((y : Int) + D.getD (Int.toNat 4) (R.d Ey) - 1) (D.getD (Int.toNat 4) (R.d Ey))) := by rw [g4]; exact z3
  repeat' (first
    | ((with_reducible refine TDr.any ?_); refine TDr.callE env (by first | rfl | assumption) (by rfl) (by rfl) ?_ (g1) (by rfl) (by rfl) ?_)
    | ((with_reducible refine TDr.any ?_); refine TDr.callE env (by first | rfl | assumption) (by rfl) (by rfl) ?_ (g2) (by rfl) (by rfl) ?_)
    | exact z1
    | exact z3b
    | refine GZy_i_y (And.intro g4 g4b) ?_ ?_ ?_ ?_ ?_ ?_ ?_ ?_
    | with_reducible first | exact BzZq.mk | refine Tw.ret ?_ | refine ImZq.i fun h => ?_ | refine IkZq.i fun hk => ?_)
  rw [g4, qm, gT, ← eT]
  refine Tw.loopK [2, 3, 4, 64] (fun k : Nat => k ≤ m) (fun k => m - k) (fun k => [(65, .int .i64 k), (5, .lst Ey (lft w y r Q m k))])
    (fun k => [some (.cells [.int .i64 0, .int .i64 0, .int .i64 0, .nils]), some (.cells [.int .i64 w, .int .i64 y, .int .i64 r, .sla 1 2 0 k]), some (.arr ELyJ (tab k Q))]) ⟨0, by omega, TWk.fcanon env [some 0, some 1, none] (by rfl) ?_⟩ (fun k hk => ?_)
  · repeat' (first
      | with_reducible first | exact Conj.nil | refine Conj.cons rfl ?_ | refine Conj.same ?_ | refine Conj.ask ?_ ?_
      | ((with_reducible refine Due.mk ?_); (first | with_reducible rfl | omega | assumption | decide | ((try simp only [goS] at *) <;> (try intro h) <;> (try intro h') <;> (try simp only [goS] at *) <;> (try simp only [rdi, rdy, Int.toNat_natCast, Nat.add_zero] at *) <;> (try simp only [rng]) <;> (first | assumption | omega)) | (exact due_app0 (by omega)) | (exact due_app (by omega)) | (intros; simp; done) | (intros; simp; omega)))
      | with_reducible refine Due.mk ?_
      | omega)
  rcases Nat.lt_or_ge k m with hk2 | hk2
  · have es := lft_step (w := w) (h := y) (r := r) (Q := Q) hk2
    obtain ⟨M, hM⟩ := genB_mono (w := w) (h := y) (r := r) (Q := Q) (show k + 1 ≤ m from hk2)
    have ql : (Q k).length < 16777216 := by
      have := congrArg List.length hM
      simp only [genB, recB] at this
      rw [List.length_append, List.length_append, List.length_append, List.length_append] at this
      rw [hD] at hl
      omega
    obtain ⟨q, hq⟩ : ∃ q, q = Q k := ⟨_, rfl⟩
    obtain ⟨X, hX⟩ : ∃ X, X = lft w y r Q m (k + 1) := ⟨_, rfl⟩
    obtain ⟨Y, hY⟩ : ∃ Y, Y = lft w y r Q m k := ⟨_, rfl⟩
    rw [← hq] at ql
    have eY : Y = ((q.length / 65536 % 256 : Nat) : Int) :: ((q.length / 256 % 256 : Nat) : Int) :: ((q.length % 256 : Nat) : Int) :: (q ++ X) := by rw [hY, es, ← hq, ← hX]; rfl
    have yl : Y.length = q.length + X.length + 3 := by rw [eY]; simp only [List.length_cons, List.length_append]
    have y0 : Y.getD (Int.toNat 0) (R.d Ey) = ((q.length / 65536 : Nat) : Int) := by rw [eY]; show ((q.length / 65536 % 256 : Nat) : Int) = _; omega
    have y3 : List.drop (Int.toNat 3) Y = q ++ X := by rw [eY]; rfl
    have gY := get16_c (List.drop (Int.toNat 1) Y) (q.length / 256 % 256) (q.length % 256) (by rw [List.length_drop, show Int.toNat 1 = 1 from rfl]; omega) (by omega) (by omega) (by rw [eY]; rfl) (by rw [eY]; rfl)
    rw [show q.length / 256 % 256 * 256 + q.length % 256 = q.length % 65536 by omega] at gY
    rw [← hY]
    have eb : bor (Y.getD (Int.toNat 0) (R.d Ey) * 2 ^ Int.toNat 16) ((q.length % 65536 : Nat) : Int) = ((q.length : Nat) : Int) := by
      rw [y0, bor16 (by omega)]; omega
    have eb0 : bor (Y.getD 0 0 * 2 ^ Int.toNat 16) ((q.length % 65536 : Nat) : Int) = ((q.length : Nat) : Int) := eb
    have y3l : (List.drop (Int.toNat 3) Y).length = q.length + X.length := by rw [y3, List.length_append]
    have eTk : List.take (bor (Y.getD (Int.toNat 0) (R.d Ey) * 2 ^ Int.toNat 16) ((q.length % 65536 : Nat) : Int)).toNat (List.drop (Int.toNat 3) Y) = q := by rw [eb, Int.toNat_natCast, y3, List.take_left]
    have eDr : List.drop (bor (Y.getD (Int.toNat 0) (R.d Ey) * 2 ^ Int.toNat 16) ((q.length % 65536 : Nat) : Int)).toNat (List.drop (Int.toNat 3) Y) = X := by rw [eb, Int.toNat_natCast, y3, List.drop_left]
    have s1 : 0 ≤ Y.getD (Int.toNat 0) (R.d Ey) * 2 ^ Int.toNat 16 ∧ Y.getD (Int.toNat 0) (R.d Ey) * 2 ^ Int.toNat 16 ≤ 16777216 := by
      rw [y0]
      show 0 ≤ ((q.length / 65536 : Nat) : Int) * 65536 ∧ ((q.length / 65536 : Nat) : Int) * 65536 ≤ 16777216
      omega
    have s0 : rng .i64 (Y.getD (Int.toNat 0) (R.d Ey)) := by rw [y0]; exact ⟨by omega, by omega⟩
    have s2 : rng .i64 (Y.getD (Int.toNat 0) (R.d Ey) * 2 ^ Int.toNat 16) := ⟨by omega, by omega⟩
    have s3 : 0 ≤ (0 : Int) ∧ 0 ≤ bor (Y.getD (Int.toNat 0) (R.d Ey) * 2 ^ Int.toNat 16) ((q.length % 65536 : Nat) : Int) ∧ bor (Y.getD (Int.toNat 0) (R.d Ey) * 2 ^ Int.toNat 16) ((q.length % 65536 : Nat) : Int) ≤ ((List.drop (Int.toNat 3) Y).length : Int) := by rw [eb, y3l]; omega
    have s4 : 0 ≤ bor (Y.getD (Int.toNat 0) (R.d Ey) * 2 ^ Int.toNat 16) ((q.length % 65536 : Nat) : Int) ∧ bor (Y.getD (Int.toNat 0) (R.d Ey) * 2 ^ Int.toNat 16) ((q.length % 65536 : Nat) : Int) ≤ ((List.drop (Int.toNat 3) Y).length : Int) ∧ ((List.drop (Int.toNat 3) Y).length : Int) ≤ ((List.drop (Int.toNat 3) Y).length : Int) := by rw [eb, y3l]; omega
    have lt : (tab k Q).length = k := tab_len
    have eN : tab (k + 1) Q = cut (tab k Q) 0 k ++ cut [List.take (bor (Y.getD (Int.toNat 0) (R.d Ey) * 2 ^ Int.toNat 16) ((q.length % 65536 : Nat) : Int)).toNat (List.drop (Int.toNat 3) Y)] 0 1 := by rw [eTk, cut_tab, cut_one, tab_succ, hq]
    have dc : (k + (cut [List.take (bor (Y.getD (Int.toNat 0) (R.d Ey) * 2 ^ Int.toNat 16) ((q.length % 65536 : Nat) : Int)).toNat (List.drop (Int.toNat 3) Y)] 0 1).length) * 24 ≤ 140737488355328 ∧ k + (cut [List.take (bor (Y.getD (Int.toNat 0) (R.d Ey) * 2 ^ Int.toNat 16) ((q.length % 65536 : Nat) : Int)).toNat (List.drop (Int.toNat 3) Y)] 0 1).length ≤ 140737488355328 := by
      show (k + 1) * 24 ≤ 140737488355328 ∧ k + 1 ≤ 140737488355328
      omega
    repeat' (first
      | ((with_reducible refine TDr.any ?_); refine TDr.callE env (by first | rfl | assumption) (by rfl) (by rfl) ?_ (gY) (by rfl) (by rfl) ?_)
      | exact s0
      | exact s1.1
      | exact s2
      | exact s3
      | exact s4
      | exact dc
      | refine GZy_i_y (And.intro yl (And.intro eb (And.intro eb0 (And.intro y3l lt)))) ?_ ?_ ?_ ?_ ?_ ?_ ?_ ?_
      | with_reducible first | exact BzZq.mk | refine Tw.ret ?_ | refine ImZq.i fun h => ?_ | refine IkZq.i fun hk => ?_)
    refine ⟨k + 1, by omega, by omega, TWk.fcanon env [some 0, some 1, some 4] (by rfl) ?_⟩
    repeat' (first | exact trivial | refine ⟨rfl, ?_⟩ | refine ⟨hX.symm.trans eDr.symm, ?_⟩ | refine ⟨eN, ?_⟩)
  · obtain rfl : k = m := by omega
    have lt : (tab k Q).length = k := tab_len
    rw [lft_end]
    repeat' (first
      | ((with_reducible refine Tw.retI ?_); refine Tw.frz env 2 (by rfl) (by rfl) (by rfl) ?_ ?_ (Tw.ret ?_))
      | refine GZy_i_y lt ?_ ?_ ?_ ?_ ?_ ?_ ?_ ?_
      | with_reducible first | exact BzZq.mk | refine Tw.ret ?_ | refine ImZq.i fun h => ?_ | refine IkZq.i fun hk => ?_)
    rw [cut_tab]
    exact ⟨rfl, rfl, rfl⟩
end Go.Proofs.Ytjedljdfkoagbaa
