/- The camera: sample, Matrix. -/
import Derived.Test.YthkilkjngincpaaCamX
import Derived.Test.YthkilkjngincpaaMtx3
import Derived.Test.YthkilkjngincpaaGo
namespace Go.Proofs.Ythkilkjngincpaa
open Go Go.Lite
set_option linter.unusedVariables false
set_option linter.unusedSimpArgs false
set_option maxRecDepth 100000
set_option maxHeartbeats 4000000
-- @simp rdi rdy rdo

/-- The middles of the cells of a rectangle. -/
def smp (w k : Nat) (D : List Int) (a b S T n : Nat) (x y : Nat) : Bool := px w k D ((a + (2 * x + 1) * S / (2 * n) : Nat) : Int) ((b + (2 * y + 1) * T / (2 * n) : Nat) : Int)
theorem sample_c (w k : Nat) (D : List Int) (a b S T n : Nat) (hk : BmOk w k D) (hb : a + S ≤ 1024 ∧ b + T ≤ 1024) (hn : 1 ≤ n ∧ n ≤ 64) :
    TC R Try.prog camera_sample_f [.ptr 0 0, .int .i64 a, .int .i64 b, .int .i64 ((a : Int) + S), .int .i64 ((b : Int) + T), .int .i64 n] [some (.cells [.int .i64 w, .int .i64 k, .lst Ey D])]
    (fun v X => v = .agg [.int .i64 n, .int .i64 n, .lst Ey (bm n n (smp w k D a b S T n))] ∧ X = [some (.cells [.int .i64 w, .int .i64 k, .lst Ey D])]) := by
  have bc := blank_c n n (by unfold Due; omega) (by unfold Due; omega)
  rw [bm_congr (g := upto (smp w k D a b S T n) 0 0) fun x y _ _ => upto_none.symm] at bc
  obtain ⟨g, hg⟩ : ∃ g, g = smp w k D a b S T n := ⟨_, rfl⟩
  have hg2 : ∀ x y, px w k D ((a + (2 * x + 1) * S / (2 * n) : Nat) : Int) ((b + (2 * y + 1) * T / (2 * n) : Nat) : Int) = g x y := fun x y => by rw [hg]; rfl
  rw [← hg] at bc ⊢
  have raw : TC R Try.prog camera_sample_f [.ptr 0 0, .int .i64 a, .int .i64 b, .int .i64 ((a : Int) + S), .int .i64 ((b : Int) + T), .int .i64 n] [some (.cells [.int .i64 w, .int .i64 k, .lst Ey D])]
      (fun v X => v = .agg [.int .i64 n, .int .i64 n, .lst Ey (bm n n g)] ∧ ∃ p q r, X = [some (.cells [.int .i64 w, .int .i64 k, .lst Ey D]), p, q, r]) := by
    refine tc env camera_sample_s (by rfl) ?_
    dsimp only [camera_sample_c]
    repeat' (first
      | ((with_reducible refine TOps.any ?_); refine TOps.callV env (by rfl) (by rfl) (by rfl) (bc) ?_)
      | refine GZp_i_y_o ?_ ?_ ?_ ?_ ?_ ?_ ?_ ?_
      | with_reducible first | exact BzZq.mk | refine Tw.ret ?_ | refine ImZq.i fun h => ?_ | refine IkZq.i fun hk => ?_)
    refine Tw.loopK [0, 1, 2, 3, 4, 5, 12, 13, 19] (fun y : Nat => y ≤ n) (fun y => n - y) (fun y => [(20, .int .i64 y)])
      (fun y => [some (.cells [.int .i64 w, .int .i64 k, .lst Ey D]), some (.cells [.int .i64 0, .int .i64 0, .nils]), some (.arr Ey (bm n n (upto g 0 y))), some (.cells [.int .i64 n, .int .i64 n, .sla 1 2 0 (st n * n)])]) ⟨0, by omega, TWk.fcanon env [some 0, some 1, some 2, some 3] (by rfl) ?_⟩ (fun y hy => ?_)
    · repeat' (first
        | refine GZ_i_y_o ?_ ?_ ?_ ?_ ?_ ?_ ?_ ?_
        | with_reducible first | exact BzZq.mk | refine Tw.ret ?_ | refine ImZq.i fun h => ?_ | refine IkZq.i fun hk => ?_)
    rcases Nat.lt_or_ge y n with hy | hy
    · repeat' (first
        | refine GZp_i_y_o ?_ ?_ ?_ ?_ ?_ ?_ ?_ ?_
        | with_reducible first | exact BzZq.mk | refine Tw.ret ?_ | refine ImZq.i fun h => ?_ | refine IkZq.i fun hk => ?_)
      refine Tw.loopK [0, 1, 2, 3, 4, 5, 12, 13, 14, 19, 20, 23] (fun x : Nat => x ≤ n) (fun x => n - x) (fun x => [(24, .int .i64 x)])
        (fun x => [some (.cells [.int .i64 w, .int .i64 k, .lst Ey D]), some (.cells [.int .i64 0, .int .i64 0, .nils]), some (.arr Ey (bm n n (upto g x y))), some (.cells [.int .i64 n, .int .i64 n, .sla 1 2 0 (st n * n)])]) ⟨0, by omega, TWk.fcanon env [some 0, some 1, some 2, some 3] (by rfl) ?_⟩ (fun x hx => ?_)
      · repeat' (first
          | refine GZ_i_y_o ?_ ?_ ?_ ?_ ?_ ?_ ?_ ?_
          | with_reducible first | exact BzZq.mk | refine Tw.ret ?_ | refine ImZq.i fun h => ?_ | refine IkZq.i fun hk => ?_)
      rcases Nat.lt_or_ge x n with hx | hx
      · have sx : (2 * x + 1) * S ≤ 129 * 1024 := Nat.mul_le_mul (by omega) (by omega)
        have sy : (2 * y + 1) * T ≤ 129 * 1024 := Nat.mul_le_mul (by omega) (by omega)
        have e1 : (2 * (x : Int) + 1) * ((a : Int) + S - a) = (((2 * x + 1) * S : Nat) : Int) := by rw [show (a : Int) + S - a = S by omega]; simp
        have e2 : (2 * (y : Int) + 1) * ((b : Int) + T - b) = (((2 * y + 1) * T : Nat) : Int) := by rw [show (b : Int) + T - b = T by omega]; simp
        have e3 : 2 * (n : Int) = ((2 * n : Nat) : Int) := by simp
        have u1 : quo ((2 * (x : Int) + 1) * ((a : Int) + S - a)) (2 * (n : Int)) = (((2 * x + 1) * S / (2 * n) : Nat) : Int) := by rw [e1, e3, quo_nn (by omega)]; simp
        have u2 : quo ((2 * (y : Int) + 1) * ((b : Int) + T - b)) (2 * (n : Int)) = (((2 * y + 1) * T / (2 * n) : Nat) : Int) := by rw [e2, e3, quo_nn (by omega)]; simp
        have l1 : (2 * x + 1) * S / (2 * n) ≤ 129 * 1024 := Nat.le_trans (Nat.div_le_self _ _) sx
        have l2 : (2 * y + 1) * T / (2 * n) ≤ 129 * 1024 := Nat.le_trans (Nat.div_le_self _ _) sy
        have ic := is_c w k D ((a : Int) + quo ((2 * (x : Int) + 1) * ((a : Int) + S - a)) (2 * (n : Int))) ((b : Int) + quo ((2 * (y : Int) + 1) * ((b : Int) + T - b)) (2 * (n : Int))) hk
        have ei : px w k D ((a : Int) + quo ((2 * (x : Int) + 1) * ((a : Int) + S - a)) (2 * (n : Int))) ((b : Int) + quo ((2 * (y : Int) + 1) * ((b : Int) + T - b)) (2 * (n : Int))) = g x y := by
          rw [u1, u2, ← hg2]; simp
        rw [ei] at ic
        clear ei
        generalize (2 * x + 1) * S / (2 * n) = p at u1 l1
        generalize (2 * y + 1) * T / (2 * n) = q at u2 l2
        have f1 : -9223372036854775808 ≤ (2 * (x : Int) + 1) * ((a : Int) + S - a) ∧ (2 * (x : Int) + 1) * ((a : Int) + S - a) ≤ 9223372036854775807 := by rw [e1]; omega
        have f2 : -9223372036854775808 ≤ (2 * (y : Int) + 1) * ((b : Int) + T - b) ∧ (2 * (y : Int) + 1) * ((b : Int) + T - b) ≤ 9223372036854775807 := by rw [e2]; omega
        have f3 : rng .i64 (quo ((2 * (x : Int) + 1) * ((a : Int) + S - a)) (2 * (n : Int))) := by rw [u1]; simp only [rng]; omega
        have f4 : rng .i64 (quo ((2 * (y : Int) + 1) * ((b : Int) + T - b)) (2 * (n : Int))) := by rw [u2]; simp only [rng]; omega
        have f5 : -9223372036854775808 ≤ (a : Int) + quo ((2 * (x : Int) + 1) * ((a : Int) + S - a)) (2 * (n : Int)) ∧ (a : Int) + quo ((2 * (x : Int) + 1) * ((a : Int) + S - a)) (2 * (n : Int)) ≤ 9223372036854775807 := by rw [u1]; omega
        have f6 : -9223372036854775808 ≤ (b : Int) + quo ((2 * (y : Int) + 1) * ((b : Int) + T - b)) (2 * (n : Int)) ∧ (b : Int) + quo ((2 * (y : Int) + 1) * ((b : Int) + T - b)) (2 * (n : Int)) ≤ 9223372036854775807 := by rw [u2]; omega
        have hbd := bm_bd (w := n) (h := n) (f := upto g x y) (at8_lt hx hy)
        have hbl := bm_len (w := n) (h := n) (f := upto g x y)
        have hmk := bm_mark (f := upto g x y) hx hy
        have mc := mark_c n n (bm n n (upto g x y)) x y (by unfold Due; omega) (by unfold Due; omega) hbl hbd hx hy
        rw [hmk] at mc
        cases hG : g x y with
        | false =>
          rw [hG] at ic
          rw [bm_congr fun i j _ _ => upto_no hG i j]
          repeat' (first
            | ((with_reducible refine TDr.any ?_); refine TDr.callE env (by first | rfl | assumption) (by rfl) (by rfl) ?_ (ic) (by rfl) (by rfl) ?_)
            | exact f1
            | exact f2
            | exact f3
            | exact f4
            | exact f5
            | exact f6
            | refine GZp_i_y_o ?_ ?_ ?_ ?_ ?_ ?_ ?_ ?_
            | with_reducible first | exact BzZq.mk | refine Tw.ret ?_ | refine ImZq.i fun h => ?_ | refine IkZq.i fun hk => ?_)
          refine ⟨x + 1, by omega, by omega, TWk.fcanon env [some 0, some 1, some 2, some 3] (by rfl) ?_⟩
          repeat' (first
            | refine GZ_i_y_o ?_ ?_ ?_ ?_ ?_ ?_ ?_ ?_
            | with_reducible first | exact BzZq.mk | refine Tw.ret ?_ | refine ImZq.i fun h => ?_ | refine IkZq.i fun hk => ?_)
        | true =>
          rw [hG] at ic
          rw [bm_congr (f := fun i j => upto g x y i j || (decide (i = x) && decide (j = y))) fun i j _ _ => upto_yes hG i j] at mc
          repeat' (first
            | ((with_reducible refine TDr.any ?_); refine TDr.callE env (by first | rfl | assumption) (by rfl) (by rfl) ?_ (ic) (by rfl) (by rfl) ?_)
            | ((with_reducible refine TOps.any ?_); refine TOps.callHE env [3, 2] (mc) (by rfl) (by rfl) (by rfl) (by rfl) (by rfl) (by rfl) (by repeat' (first | exact trivial | refine ⟨rfl, ?_⟩)) ?_)
            | exact f1
            | exact f2
            | exact f3
            | exact f4
            | exact f5
            | exact f6
            | refine GZp_i_y_o ?_ ?_ ?_ ?_ ?_ ?_ ?_ ?_
            | with_reducible first | exact BzZq.mk | refine Tw.ret ?_ | refine ImZq.i fun h => ?_ | refine IkZq.i fun hk => ?_)
          refine ⟨x + 1, by omega, by omega, TWk.fcanon env [some 0, some 1, some 2, some 3] (by rfl) ?_⟩
          repeat' (first
            | refine GZ_i_y_o ?_ ?_ ?_ ?_ ?_ ?_ ?_ ?_
            | with_reducible first | exact BzZq.mk | refine Tw.ret ?_ | refine ImZq.i fun h => ?_ | refine IkZq.i fun hk => ?_)
      · obtain rfl : n = x := by omega
        rw [bm_congr fun i j hi _ => upto_row (g := g) (y := y) hi]
        repeat' (first
          | refine GZp_i_y_o ?_ ?_ ?_ ?_ ?_ ?_ ?_ ?_
          | with_reducible first | exact BzZq.mk | refine Tw.ret ?_ | refine ImZq.i fun h => ?_ | refine IkZq.i fun hk => ?_)
        refine ⟨y + 1, by omega, by omega, TWk.fcanon env [some 0, some 1, some 2, some 3] (by rfl) ?_⟩
        repeat' (first
          | refine GZ_i_y_o ?_ ?_ ?_ ?_ ?_ ?_ ?_ ?_
          | with_reducible first | exact BzZq.mk | refine Tw.ret ?_ | refine ImZq.i fun h => ?_ | refine IkZq.i fun hk => ?_)
    · obtain rfl : n = y := by omega
      rw [bm_congr fun i j _ hj => upto_all (g := g) hj]
      have hbl := bm_len (w := n) (h := n) (f := g)
      have hle : 0 + st n * n ≤ (bm n n g).length := by omega
      repeat' (first
        | exact hle
        | ((with_reducible refine Tw.retI ?_); refine Tw.frz env 2 (by rfl) (by rfl) (by rfl) ?_ ?_ (Tw.ret ?_))
        | refine GZp_i_y_o ?_ ?_ ?_ ?_ ?_ ?_ ?_ ?_
        | with_reducible first | exact BzZq.mk | refine Tw.ret ?_ | refine ImZq.i fun h => ?_ | refine IkZq.i fun hk => ?_)
      rw [cut_all hbl.symm]
      exact ⟨rfl, _, _, _, rfl⟩
  refine raw.wk fun v X h => ?_
  obtain ⟨rfl, a', b', c', rfl⟩ := h
  refine ⟨_, [some (.cells [.int .i64 w, .int .i64 k, .lst Ey D])], TWk.fcanon env [some 0] (F' := [(0, .agg [.int .i64 n, .int .i64 n, .lst Ey (bm n n g)])]) (by rfl) ?_, rfl, rfl⟩
  repeat' (first
    | refine GZ_i_y_o ?_ ?_ ?_ ?_ ?_ ?_ ?_ ?_
    | with_reducible first | exact BzZq.mk | refine Tw.ret ?_ | refine ImZq.i fun h => ?_ | refine IkZq.i fun hk => ?_)
end Go.Proofs.Ythkilkjngincpaa
