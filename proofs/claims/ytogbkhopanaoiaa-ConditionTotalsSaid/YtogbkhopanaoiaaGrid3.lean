/- Grids: Check, and interpolation of valid inputs. -/
import Derived.Test.YtogbkhopanaoiaaGrid2
import Derived.Test.YtogbkhopanaoiaaGo
namespace Go.Proofs.Ytogbkhopanaoiaa
open Go Go.Lite
set_option linter.unusedVariables false
set_option linter.unusedSimpArgs false
set_option maxRecDepth 100000
set_option maxHeartbeats 4000000
-- @simp rdi

def shapeE (a b c : Int) : Int := if a < 1 ∨ 4 < a ∨ b < 1 ∨ 8 < b then 3 else if c = 2 ∨ c = 3 ∨ c = 4 ∨ c = 5 ∨ c = 6 ∨ c = 7 ∨ c = 9 then (if 32768 < c ^ a.toNat * b then 2 else 0) else 3
theorem nodes_c (a b c : Int) : TC R Try.prog grid_nodes_f [.int .i64 a, .int .i64 b, .int .i64 c] []
    (fun v X => v = .tup [.int .i64 (if shapeE a b c = 0 then c ^ a.toNat else 0), .int .i64 (shapeE a b c)] ∧ X = []) := by
  refine tc0 env grid_nodes_s (by rfl) ?_
  dsimp only [grid_nodes_c]
  by_cases h1 : a < 1 ∨ 4 < a ∨ b < 1 ∨ 8 < b
  · have hE : shapeE a b c = 3 := by unfold shapeE; rw [if_pos h1]
    rw [hE]
    repeat' (first
      | refine GZp_i ?_ ?_ ?_ ?_ ?_ ?_ ?_ ?_
      | with_reducible first | exact BzZq.mk | refine Tw.ret ?_ | refine ImZq.i fun h => ?_ | refine IkZq.i fun hk => ?_)
    exact ⟨rfl, rfl, rfl⟩
  by_cases h2 : c = 2 ∨ c = 3 ∨ c = 4 ∨ c = 5 ∨ c = 6 ∨ c = 7 ∨ c = 9
  · obtain ⟨a, rfl⟩ : ∃ n : Nat, a = n := ⟨a.toNat, by omega⟩
    rcases h2 with rfl | rfl | rfl | rfl | rfl | rfl | rfl
    · repeat' (first
        | refine GZp_i ?_ ?_ ?_ ?_ ?_ ?_ ?_ ?_
        | with_reducible first | exact BzZq.mk | refine Tw.ret ?_ | refine ImZq.i fun h => ?_ | refine IkZq.i fun hk => ?_)
      refine Tw.loopK [0, 1, 2, 32] (fun i : Nat => i ≤ a) (fun i => a - i) (fun i => [(8, .int .i64 (2 ^ i)), (33, .int .i64 i)]) (fun _ => []) ⟨0, by omega, TWk.fcanon env [] (by rfl) ?_⟩ (fun i hi => ?_)
      · repeat' (first
          | with_reducible first | exact Conj.nil | refine Conj.cons rfl ?_ | refine Conj.same ?_ | refine Conj.ask ?_ ?_
          | ((with_reducible refine Due.mk ?_); (first | with_reducible rfl | omega | assumption | decide | ((try simp only [goS] at *) <;> (try intro h) <;> (try intro h') <;> (try simp only [goS] at *) <;> (try simp only [rdi, Int.toNat_natCast, Nat.add_zero] at *) <;> (try simp only [rng]) <;> (first | assumption | omega)) | (exact due_app0 (by omega)) | (exact due_app (by omega)) | (intros; simp; done) | (intros; simp; omega)))
          | with_reducible refine Due.mk ?_
          | omega)
      rcases Nat.lt_or_ge i a with hi | hi
      · have p1 : (2 : Int) ^ (i + 1) = 2 ^ i * 2 := Int.pow_succ _ _
        have p2 : i = 0 ∨ i = 1 ∨ i = 2 ∨ i = 3 := by omega
        have p3 : (1 : Int) ≤ 2 ^ i ∧ (2 : Int) ^ i ≤ 729 := by rcases p2 with rfl | rfl | rfl | rfl <;> decide
        generalize (2 : Int) ^ i = z at *
        repeat' (first
          | refine GZp_i ?_ ?_ ?_ ?_ ?_ ?_ ?_ ?_
          | with_reducible first | exact BzZq.mk | refine Tw.ret ?_ | refine ImZq.i fun h => ?_ | refine IkZq.i fun hk => ?_)
        refine ⟨i + 1, by omega, by omega, TWk.fcanon env [] (by rfl) ?_⟩
        repeat' (first
          | exact p1
          | with_reducible first | exact Conj.nil | refine Conj.cons rfl ?_ | refine Conj.same ?_ | refine Conj.ask ?_ ?_
          | ((with_reducible refine Due.mk ?_); (first | with_reducible rfl | omega | assumption | decide | ((try simp only [goS] at *) <;> (try intro h) <;> (try intro h') <;> (try simp only [goS] at *) <;> (try simp only [rdi, Int.toNat_natCast, Nat.add_zero] at *) <;> (try simp only [rng]) <;> (first | assumption | omega)) | (exact due_app0 (by omega)) | (exact due_app (by omega)) | (intros; simp; done) | (intros; simp; omega)))
          | with_reducible refine Due.mk ?_
          | omega)
      · obtain rfl : a = i := by omega
        have p2 : a = 1 ∨ a = 2 ∨ a = 3 ∨ a = 4 := by omega
        have p3 : (1 : Int) ≤ 2 ^ a ∧ (2 : Int) ^ a ≤ 6561 := by rcases p2 with rfl | rfl | rfl | rfl <;> decide
        have p4 := Int.mul_le_mul p3.2 (show b ≤ 8 by omega) (by omega) (by omega)
        have p5 := Int.mul_pos (show (0 : Int) < 2 ^ a by omega) (show 0 < b by omega)
        have hE : shapeE a b 2 = if 32768 < (2 : Int) ^ a * b then 2 else 0 := by unfold shapeE; rw [if_neg (by omega), if_pos (by omega), Int.toNat_natCast]
        rw [hE, Int.toNat_natCast]
        generalize (2 : Int) ^ a = z at *
        by_cases hz : 32768 < z * b
        · rw [if_pos hz]
          repeat' (first
            | refine GZp_i ?_ ?_ ?_ ?_ ?_ ?_ ?_ ?_
            | with_reducible first | exact BzZq.mk | refine Tw.ret ?_ | refine ImZq.i fun h => ?_ | refine IkZq.i fun hk => ?_)
          exact ⟨rfl, rfl, rfl⟩
        · rw [if_neg hz]
          repeat' (first
            | refine GZp_i ?_ ?_ ?_ ?_ ?_ ?_ ?_ ?_
            | with_reducible first | exact BzZq.mk | refine Tw.ret ?_ | refine ImZq.i fun h => ?_ | refine IkZq.i fun hk => ?_)
          exact ⟨rfl, rfl, rfl⟩
    · repeat' (first
        | refine GZp_i ?_ ?_ ?_ ?_ ?_ ?_ ?_ ?_
        | with_reducible first | exact BzZq.mk | refine Tw.ret ?_ | refine ImZq.i fun h => ?_ | refine IkZq.i fun hk => ?_)
      refine Tw.loopK [0, 1, 2, 32] (fun i : Nat => i ≤ a) (fun i => a - i) (fun i => [(8, .int .i64 (3 ^ i)), (33, .int .i64 i)]) (fun _ => []) ⟨0, by omega, TWk.fcanon env [] (by rfl) ?_⟩ (fun i hi => ?_)
      · repeat' (first
          | with_reducible first | exact Conj.nil | refine Conj.cons rfl ?_ | refine Conj.same ?_ | refine Conj.ask ?_ ?_
          | ((with_reducible refine Due.mk ?_); (first | with_reducible rfl | omega | assumption | decide | ((try simp only [goS] at *) <;> (try intro h) <;> (try intro h') <;> (try simp only [goS] at *) <;> (try simp only [rdi, Int.toNat_natCast, Nat.add_zero] at *) <;> (try simp only [rng]) <;> (first | assumption | omega)) | (exact due_app0 (by omega)) | (exact due_app (by omega)) | (intros; simp; done) | (intros; simp; omega)))
          | with_reducible refine Due.mk ?_
          | omega)
      rcases Nat.lt_or_ge i a with hi | hi
      · have p1 : (3 : Int) ^ (i + 1) = 3 ^ i * 3 := Int.pow_succ _ _
        have p2 : i = 0 ∨ i = 1 ∨ i = 2 ∨ i = 3 := by omega
        have p3 : (1 : Int) ≤ 3 ^ i ∧ (3 : Int) ^ i ≤ 729 := by rcases p2 with rfl | rfl | rfl | rfl <;> decide
        generalize (3 : Int) ^ i = z at *
        repeat' (first
          | refine GZp_i ?_ ?_ ?_ ?_ ?_ ?_ ?_ ?_
          | with_reducible first | exact BzZq.mk | refine Tw.ret ?_ | refine ImZq.i fun h => ?_ | refine IkZq.i fun hk => ?_)
        refine ⟨i + 1, by omega, by omega, TWk.fcanon env [] (by rfl) ?_⟩
        repeat' (first
          | exact p1
          | with_reducible first | exact Conj.nil | refine Conj.cons rfl ?_ | refine Conj.same ?_ | refine Conj.ask ?_ ?_
          | ((with_reducible refine Due.mk ?_); (first | with_reducible rfl | omega | assumption | decide | ((try simp only [goS] at *) <;> (try intro h) <;> (try intro h') <;> (try simp only [goS] at *) <;> (try simp only [rdi, Int.toNat_natCast, Nat.add_zero] at *) <;> (try simp only [rng]) <;> (first | assumption | omega)) | (exact due_app0 (by omega)) | (exact due_app (by omega)) | (intros; simp; done) | (intros; simp; omega)))
          | with_reducible refine Due.mk ?_
          | omega)
      · obtain rfl : a = i := by omega
        have p2 : a = 1 ∨ a = 2 ∨ a = 3 ∨ a = 4 := by omega
        have p3 : (1 : Int) ≤ 3 ^ a ∧ (3 : Int) ^ a ≤ 6561 := by rcases p2 with rfl | rfl | rfl | rfl <;> decide
        have p4 := Int.mul_le_mul p3.2 (show b ≤ 8 by omega) (by omega) (by omega)
        have p5 := Int.mul_pos (show (0 : Int) < 3 ^ a by omega) (show 0 < b by omega)
        have hE : shapeE a b 3 = if 32768 < (3 : Int) ^ a * b then 2 else 0 := by unfold shapeE; rw [if_neg (by omega), if_pos (by omega), Int.toNat_natCast]
        rw [hE, Int.toNat_natCast]
        generalize (3 : Int) ^ a = z at *
        by_cases hz : 32768 < z * b
        · rw [if_pos hz]
          repeat' (first
            | refine GZp_i ?_ ?_ ?_ ?_ ?_ ?_ ?_ ?_
            | with_reducible first | exact BzZq.mk | refine Tw.ret ?_ | refine ImZq.i fun h => ?_ | refine IkZq.i fun hk => ?_)
          exact ⟨rfl, rfl, rfl⟩
        · rw [if_neg hz]
          repeat' (first
            | refine GZp_i ?_ ?_ ?_ ?_ ?_ ?_ ?_ ?_
            | with_reducible first | exact BzZq.mk | refine Tw.ret ?_ | refine ImZq.i fun h => ?_ | refine IkZq.i fun hk => ?_)
          exact ⟨rfl, rfl, rfl⟩
    · repeat' (first
        | refine GZp_i ?_ ?_ ?_ ?_ ?_ ?_ ?_ ?_
        | with_reducible first | exact BzZq.mk | refine Tw.ret ?_ | refine ImZq.i fun h => ?_ | refine IkZq.i fun hk => ?_)
      refine Tw.loopK [0, 1, 2, 32] (fun i : Nat => i ≤ a) (fun i => a - i) (fun i => [(8, .int .i64 (4 ^ i)), (33, .int .i64 i)]) (fun _ => []) ⟨0, by omega, TWk.fcanon env [] (by rfl) ?_⟩ (fun i hi => ?_)
      · repeat' (first
          | with_reducible first | exact Conj.nil | refine Conj.cons rfl ?_ | refine Conj.same ?_ | refine Conj.ask ?_ ?_
          | ((with_reducible refine Due.mk ?_); (first | with_reducible rfl | omega | assumption | decide | ((try simp only [goS] at *) <;> (try intro h) <;> (try intro h') <;> (try simp only [goS] at *) <;> (try simp only [rdi, Int.toNat_natCast, Nat.add_zero] at *) <;> (try simp only [rng]) <;> (first | assumption | omega)) | (exact due_app0 (by omega)) | (exact due_app (by omega)) | (intros; simp; done) | (intros; simp; omega)))
          | with_reducible refine Due.mk ?_
          | omega)
      rcases Nat.lt_or_ge i a with hi | hi
      · have p1 : (4 : Int) ^ (i + 1) = 4 ^ i * 4 := Int.pow_succ _ _
        have p2 : i = 0 ∨ i = 1 ∨ i = 2 ∨ i = 3 := by omega
        have p3 : (1 : Int) ≤ 4 ^ i ∧ (4 : Int) ^ i ≤ 729 := by rcases p2 with rfl | rfl | rfl | rfl <;> decide
        generalize (4 : Int) ^ i = z at *
        repeat' (first
          | refine GZp_i ?_ ?_ ?_ ?_ ?_ ?_ ?_ ?_
          | with_reducible first | exact BzZq.mk | refine Tw.ret ?_ | refine ImZq.i fun h => ?_ | refine IkZq.i fun hk => ?_)
        refine ⟨i + 1, by omega, by omega, TWk.fcanon env [] (by rfl) ?_⟩
        repeat' (first
          | exact p1
          | with_reducible first | exact Conj.nil | refine Conj.cons rfl ?_ | refine Conj.same ?_ | refine Conj.ask ?_ ?_
          | ((with_reducible refine Due.mk ?_); (first | with_reducible rfl | omega | assumption | decide | ((try simp only [goS] at *) <;> (try intro h) <;> (try intro h') <;> (try simp only [goS] at *) <;> (try simp only [rdi, Int.toNat_natCast, Nat.add_zero] at *) <;> (try simp only [rng]) <;> (first | assumption | omega)) | (exact due_app0 (by omega)) | (exact due_app (by omega)) | (intros; simp; done) | (intros; simp; omega)))
          | with_reducible refine Due.mk ?_
          | omega)
      · obtain rfl : a = i := by omega
        have p2 : a = 1 ∨ a = 2 ∨ a = 3 ∨ a = 4 := by omega
        have p3 : (1 : Int) ≤ 4 ^ a ∧ (4 : Int) ^ a ≤ 6561 := by rcases p2 with rfl | rfl | rfl | rfl <;> decide
        have p4 := Int.mul_le_mul p3.2 (show b ≤ 8 by omega) (by omega) (by omega)
        have p5 := Int.mul_pos (show (0 : Int) < 4 ^ a by omega) (show 0 < b by omega)
        have hE : shapeE a b 4 = if 32768 < (4 : Int) ^ a * b then 2 else 0 := by unfold shapeE; rw [if_neg (by omega), if_pos (by omega), Int.toNat_natCast]
        rw [hE, Int.toNat_natCast]
        generalize (4 : Int) ^ a = z at *
        by_cases hz : 32768 < z * b
        · rw [if_pos hz]
          repeat' (first
            | refine GZp_i ?_ ?_ ?_ ?_ ?_ ?_ ?_ ?_
            | with_reducible first | exact BzZq.mk | refine Tw.ret ?_ | refine ImZq.i fun h => ?_ | refine IkZq.i fun hk => ?_)
          exact ⟨rfl, rfl, rfl⟩
        · rw [if_neg hz]
          repeat' (first
            | refine GZp_i ?_ ?_ ?_ ?_ ?_ ?_ ?_ ?_
            | with_reducible first | exact BzZq.mk | refine Tw.ret ?_ | refine ImZq.i fun h => ?_ | refine IkZq.i fun hk => ?_)
          exact ⟨rfl, rfl, rfl⟩
    · repeat' (first
        | refine GZp_i ?_ ?_ ?_ ?_ ?_ ?_ ?_ ?_
        | with_reducible first | exact BzZq.mk | refine Tw.ret ?_ | refine ImZq.i fun h => ?_ | refine IkZq.i fun hk => ?_)
      refine Tw.loopK [0, 1, 2, 32] (fun i : Nat => i ≤ a) (fun i => a - i) (fun i => [(8, .int .i64 (5 ^ i)), (33, .int .i64 i)]) (fun _ => []) ⟨0, by omega, TWk.fcanon env [] (by rfl) ?_⟩ (fun i hi => ?_)
      · repeat' (first
          | with_reducible first | exact Conj.nil | refine Conj.cons rfl ?_ | refine Conj.same ?_ | refine Conj.ask ?_ ?_
          | ((with_reducible refine Due.mk ?_); (first | with_reducible rfl | omega | assumption | decide | ((try simp only [goS] at *) <;> (try intro h) <;> (try intro h') <;> (try simp only [goS] at *) <;> (try simp only [rdi, Int.toNat_natCast, Nat.add_zero] at *) <;> (try simp only [rng]) <;> (first | assumption | omega)) | (exact due_app0 (by omega)) | (exact due_app (by omega)) | (intros; simp; done) | (intros; simp; omega)))
          | with_reducible refine Due.mk ?_
          | omega)
      rcases Nat.lt_or_ge i a with hi | hi
      · have p1 : (5 : Int) ^ (i + 1) = 5 ^ i * 5 := Int.pow_succ _ _
        have p2 : i = 0 ∨ i = 1 ∨ i = 2 ∨ i = 3 := by omega
        have p3 : (1 : Int) ≤ 5 ^ i ∧ (5 : Int) ^ i ≤ 729 := by rcases p2 with rfl | rfl | rfl | rfl <;> decide
        generalize (5 : Int) ^ i = z at *
        repeat' (first
          | refine GZp_i ?_ ?_ ?_ ?_ ?_ ?_ ?_ ?_
          | with_reducible first | exact BzZq.mk | refine Tw.ret ?_ | refine ImZq.i fun h => ?_ | refine IkZq.i fun hk => ?_)
        refine ⟨i + 1, by omega, by omega, TWk.fcanon env [] (by rfl) ?_⟩
        repeat' (first
          | exact p1
          | with_reducible first | exact Conj.nil | refine Conj.cons rfl ?_ | refine Conj.same ?_ | refine Conj.ask ?_ ?_
          | ((with_reducible refine Due.mk ?_); (first | with_reducible rfl | omega | assumption | decide | ((try simp only [goS] at *) <;> (try intro h) <;> (try intro h') <;> (try simp only [goS] at *) <;> (try simp only [rdi, Int.toNat_natCast, Nat.add_zero] at *) <;> (try simp only [rng]) <;> (first | assumption | omega)) | (exact due_app0 (by omega)) | (exact due_app (by omega)) | (intros; simp; done) | (intros; simp; omega)))
          | with_reducible refine Due.mk ?_
          | omega)
      · obtain rfl : a = i := by omega
        have p2 : a = 1 ∨ a = 2 ∨ a = 3 ∨ a = 4 := by omega
        have p3 : (1 : Int) ≤ 5 ^ a ∧ (5 : Int) ^ a ≤ 6561 := by rcases p2 with rfl | rfl | rfl | rfl <;> decide
        have p4 := Int.mul_le_mul p3.2 (show b ≤ 8 by omega) (by omega) (by omega)
        have p5 := Int.mul_pos (show (0 : Int) < 5 ^ a by omega) (show 0 < b by omega)
        have hE : shapeE a b 5 = if 32768 < (5 : Int) ^ a * b then 2 else 0 := by unfold shapeE; rw [if_neg (by omega), if_pos (by omega), Int.toNat_natCast]
        rw [hE, Int.toNat_natCast]
        generalize (5 : Int) ^ a = z at *
        by_cases hz : 32768 < z * b
        · rw [if_pos hz]
          repeat' (first
            | refine GZp_i ?_ ?_ ?_ ?_ ?_ ?_ ?_ ?_
            | with_reducible first | exact BzZq.mk | refine Tw.ret ?_ | refine ImZq.i fun h => ?_ | refine IkZq.i fun hk => ?_)
          exact ⟨rfl, rfl, rfl⟩
        · rw [if_neg hz]
          repeat' (first
            | refine GZp_i ?_ ?_ ?_ ?_ ?_ ?_ ?_ ?_
            | with_reducible first | exact BzZq.mk | refine Tw.ret ?_ | refine ImZq.i fun h => ?_ | refine IkZq.i fun hk => ?_)
          exact ⟨rfl, rfl, rfl⟩
    · repeat' (first
        | refine GZp_i ?_ ?_ ?_ ?_ ?_ ?_ ?_ ?_
        | with_reducible first | exact BzZq.mk | refine Tw.ret ?_ | refine ImZq.i fun h => ?_ | refine IkZq.i fun hk => ?_)
      refine Tw.loopK [0, 1, 2, 32] (fun i : Nat => i ≤ a) (fun i => a - i) (fun i => [(8, .int .i64 (6 ^ i)), (33, .int .i64 i)]) (fun _ => []) ⟨0, by omega, TWk.fcanon env [] (by rfl) ?_⟩ (fun i hi => ?_)
      · repeat' (first
          | with_reducible first | exact Conj.nil | refine Conj.cons rfl ?_ | refine Conj.same ?_ | refine Conj.ask ?_ ?_
          | ((with_reducible refine Due.mk ?_); (first | with_reducible rfl | omega | assumption | decide | ((try simp only [goS] at *) <;> (try intro h) <;> (try intro h') <;> (try simp only [goS] at *) <;> (try simp only [rdi, Int.toNat_natCast, Nat.add_zero] at *) <;> (try simp only [rng]) <;> (first | assumption | omega)) | (exact due_app0 (by omega)) | (exact due_app (by omega)) | (intros; simp; done) | (intros; simp; omega)))
          | with_reducible refine Due.mk ?_
          | omega)
      rcases Nat.lt_or_ge i a with hi | hi
      · have p1 : (6 : Int) ^ (i + 1) = 6 ^ i * 6 := Int.pow_succ _ _
        have p2 : i = 0 ∨ i = 1 ∨ i = 2 ∨ i = 3 := by omega
        have p3 : (1 : Int) ≤ 6 ^ i ∧ (6 : Int) ^ i ≤ 729 := by rcases p2 with rfl | rfl | rfl | rfl <;> decide
        generalize (6 : Int) ^ i = z at *
        repeat' (first
          | refine GZp_i ?_ ?_ ?_ ?_ ?_ ?_ ?_ ?_
          | with_reducible first | exact BzZq.mk | refine Tw.ret ?_ | refine ImZq.i fun h => ?_ | refine IkZq.i fun hk => ?_)
        refine ⟨i + 1, by omega, by omega, TWk.fcanon env [] (by rfl) ?_⟩
        repeat' (first
          | exact p1
          | with_reducible first | exact Conj.nil | refine Conj.cons rfl ?_ | refine Conj.same ?_ | refine Conj.ask ?_ ?_
          | ((with_reducible refine Due.mk ?_); (first | with_reducible rfl | omega | assumption | decide | ((try simp only [goS] at *) <;> (try intro h) <;> (try intro h') <;> (try simp only [goS] at *) <;> (try simp only [rdi, Int.toNat_natCast, Nat.add_zero] at *) <;> (try simp only [rng]) <;> (first | assumption | omega)) | (exact due_app0 (by omega)) | (exact due_app (by omega)) | (intros; simp; done) | (intros; simp; omega)))
          | with_reducible refine Due.mk ?_
          | omega)
      · obtain rfl : a = i := by omega
        have p2 : a = 1 ∨ a = 2 ∨ a = 3 ∨ a = 4 := by omega
        have p3 : (1 : Int) ≤ 6 ^ a ∧ (6 : Int) ^ a ≤ 6561 := by rcases p2 with rfl | rfl | rfl | rfl <;> decide
        have p4 := Int.mul_le_mul p3.2 (show b ≤ 8 by omega) (by omega) (by omega)
        have p5 := Int.mul_pos (show (0 : Int) < 6 ^ a by omega) (show 0 < b by omega)
        have hE : shapeE a b 6 = if 32768 < (6 : Int) ^ a * b then 2 else 0 := by unfold shapeE; rw [if_neg (by omega), if_pos (by omega), Int.toNat_natCast]
        rw [hE, Int.toNat_natCast]
        generalize (6 : Int) ^ a = z at *
        by_cases hz : 32768 < z * b
        · rw [if_pos hz]
          repeat' (first
            | refine GZp_i ?_ ?_ ?_ ?_ ?_ ?_ ?_ ?_
            | with_reducible first | exact BzZq.mk | refine Tw.ret ?_ | refine ImZq.i fun h => ?_ | refine IkZq.i fun hk => ?_)
          exact ⟨rfl, rfl, rfl⟩
        · rw [if_neg hz]
          repeat' (first
            | refine GZp_i ?_ ?_ ?_ ?_ ?_ ?_ ?_ ?_
            | with_reducible first | exact BzZq.mk | refine Tw.ret ?_ | refine ImZq.i fun h => ?_ | refine IkZq.i fun hk => ?_)
          exact ⟨rfl, rfl, rfl⟩
    · repeat' (first
        | refine GZp_i ?_ ?_ ?_ ?_ ?_ ?_ ?_ ?_
        | with_reducible first | exact BzZq.mk | refine Tw.ret ?_ | refine ImZq.i fun h => ?_ | refine IkZq.i fun hk => ?_)
      refine Tw.loopK [0, 1, 2, 32] (fun i : Nat => i ≤ a) (fun i => a - i) (fun i => [(8, .int .i64 (7 ^ i)), (33, .int .i64 i)]) (fun _ => []) ⟨0, by omega, TWk.fcanon env [] (by rfl) ?_⟩ (fun i hi => ?_)
      · repeat' (first
          | with_reducible first | exact Conj.nil | refine Conj.cons rfl ?_ | refine Conj.same ?_ | refine Conj.ask ?_ ?_
          | ((with_reducible refine Due.mk ?_); (first | with_reducible rfl | omega | assumption | decide | ((try simp only [goS] at *) <;> (try intro h) <;> (try intro h') <;> (try simp only [goS] at *) <;> (try simp only [rdi, Int.toNat_natCast, Nat.add_zero] at *) <;> (try simp only [rng]) <;> (first | assumption | omega)) | (exact due_app0 (by omega)) | (exact due_app (by omega)) | (intros; simp; done) | (intros; simp; omega)))
          | with_reducible refine Due.mk ?_
          | omega)
      rcases Nat.lt_or_ge i a with hi | hi
      · have p1 : (7 : Int) ^ (i + 1) = 7 ^ i * 7 := Int.pow_succ _ _
        have p2 : i = 0 ∨ i = 1 ∨ i = 2 ∨ i = 3 := by omega
        have p3 : (1 : Int) ≤ 7 ^ i ∧ (7 : Int) ^ i ≤ 729 := by rcases p2 with rfl | rfl | rfl | rfl <;> decide
        generalize (7 : Int) ^ i = z at *
        repeat' (first
          | refine GZp_i ?_ ?_ ?_ ?_ ?_ ?_ ?_ ?_
          | with_reducible first | exact BzZq.mk | refine Tw.ret ?_ | refine ImZq.i fun h => ?_ | refine IkZq.i fun hk => ?_)
        refine ⟨i + 1, by omega, by omega, TWk.fcanon env [] (by rfl) ?_⟩
        repeat' (first
          | exact p1
          | with_reducible first | exact Conj.nil | refine Conj.cons rfl ?_ | refine Conj.same ?_ | refine Conj.ask ?_ ?_
          | ((with_reducible refine Due.mk ?_); (first | with_reducible rfl | omega | assumption | decide | ((try simp only [goS] at *) <;> (try intro h) <;> (try intro h') <;> (try simp only [goS] at *) <;> (try simp only [rdi, Int.toNat_natCast, Nat.add_zero] at *) <;> (try simp only [rng]) <;> (first | assumption | omega)) | (exact due_app0 (by omega)) | (exact due_app (by omega)) | (intros; simp; done) | (intros; simp; omega)))
          | with_reducible refine Due.mk ?_
          | omega)
      · obtain rfl : a = i := by omega
        have p2 : a = 1 ∨ a = 2 ∨ a = 3 ∨ a = 4 := by omega
        have p3 : (1 : Int) ≤ 7 ^ a ∧ (7 : Int) ^ a ≤ 6561 := by rcases p2 with rfl | rfl | rfl | rfl <;> decide
        have p4 := Int.mul_le_mul p3.2 (show b ≤ 8 by omega) (by omega) (by omega)
        have p5 := Int.mul_pos (show (0 : Int) < 7 ^ a by omega) (show 0 < b by omega)
        have hE : shapeE a b 7 = if 32768 < (7 : Int) ^ a * b then 2 else 0 := by unfold shapeE; rw [if_neg (by omega), if_pos (by omega), Int.toNat_natCast]
        rw [hE, Int.toNat_natCast]
        generalize (7 : Int) ^ a = z at *
        by_cases hz : 32768 < z * b
        · rw [if_pos hz]
          repeat' (first
            | refine GZp_i ?_ ?_ ?_ ?_ ?_ ?_ ?_ ?_
            | with_reducible first | exact BzZq.mk | refine Tw.ret ?_ | refine ImZq.i fun h => ?_ | refine IkZq.i fun hk => ?_)
          exact ⟨rfl, rfl, rfl⟩
        · rw [if_neg hz]
          repeat' (first
            | refine GZp_i ?_ ?_ ?_ ?_ ?_ ?_ ?_ ?_
            | with_reducible first | exact BzZq.mk | refine Tw.ret ?_ | refine ImZq.i fun h => ?_ | refine IkZq.i fun hk => ?_)
          exact ⟨rfl, rfl, rfl⟩
    · repeat' (first
        | refine GZp_i ?_ ?_ ?_ ?_ ?_ ?_ ?_ ?_
        | with_reducible first | exact BzZq.mk | refine Tw.ret ?_ | refine ImZq.i fun h => ?_ | refine IkZq.i fun hk => ?_)
      refine Tw.loopK [0, 1, 2, 32] (fun i : Nat => i ≤ a) (fun i => a - i) (fun i => [(8, .int .i64 (9 ^ i)), (33, .int .i64 i)]) (fun _ => []) ⟨0, by omega, TWk.fcanon env [] (by rfl) ?_⟩ (fun i hi => ?_)
      · repeat' (first
          | with_reducible first | exact Conj.nil | refine Conj.cons rfl ?_ | refine Conj.same ?_ | refine Conj.ask ?_ ?_
          | ((with_reducible refine Due.mk ?_); (first | with_reducible rfl | omega | assumption | decide | ((try simp only [goS] at *) <;> (try intro h) <;> (try intro h') <;> (try simp only [goS] at *) <;> (try simp only [rdi, Int.toNat_natCast, Nat.add_zero] at *) <;> (try simp only [rng]) <;> (first | assumption | omega)) | (exact due_app0 (by omega)) | (exact due_app (by omega)) | (intros; simp; done) | (intros; simp; omega)))
          | with_reducible refine Due.mk ?_
          | omega)
      rcases Nat.lt_or_ge i a with hi | hi
      · have p1 : (9 : Int) ^ (i + 1) = 9 ^ i * 9 := Int.pow_succ _ _
        have p2 : i = 0 ∨ i = 1 ∨ i = 2 ∨ i = 3 := by omega
        have p3 : (1 : Int) ≤ 9 ^ i ∧ (9 : Int) ^ i ≤ 729 := by rcases p2 with rfl | rfl | rfl | rfl <;> decide
        generalize (9 : Int) ^ i = z at *
        repeat' (first
          | refine GZp_i ?_ ?_ ?_ ?_ ?_ ?_ ?_ ?_
          | with_reducible first | exact BzZq.mk | refine Tw.ret ?_ | refine ImZq.i fun h => ?_ | refine IkZq.i fun hk => ?_)
        refine ⟨i + 1, by omega, by omega, TWk.fcanon env [] (by rfl) ?_⟩
        repeat' (first
          | exact p1
          | with_reducible first | exact Conj.nil | refine Conj.cons rfl ?_ | refine Conj.same ?_ | refine Conj.ask ?_ ?_
          | ((with_reducible refine Due.mk ?_); (first | with_reducible rfl | omega | assumption | decide | ((try simp only [goS] at *) <;> (try intro h) <;> (try intro h') <;> (try simp only [goS] at *) <;> (try simp only [rdi, Int.toNat_natCast, Nat.add_zero] at *) <;> (try simp only [rng]) <;> (first | assumption | omega)) | (exact due_app0 (by omega)) | (exact due_app (by omega)) | (intros; simp; done) | (intros; simp; omega)))
          | with_reducible refine Due.mk ?_
          | omega)
      · obtain rfl : a = i := by omega
        have p2 : a = 1 ∨ a = 2 ∨ a = 3 ∨ a = 4 := by omega
        have p3 : (1 : Int) ≤ 9 ^ a ∧ (9 : Int) ^ a ≤ 6561 := by rcases p2 with rfl | rfl | rfl | rfl <;> decide
        have p4 := Int.mul_le_mul p3.2 (show b ≤ 8 by omega) (by omega) (by omega)
        have p5 := Int.mul_pos (show (0 : Int) < 9 ^ a by omega) (show 0 < b by omega)
        have hE : shapeE a b 9 = if 32768 < (9 : Int) ^ a * b then 2 else 0 := by unfold shapeE; rw [if_neg (by omega), if_pos (by omega), Int.toNat_natCast]
        rw [hE, Int.toNat_natCast]
        generalize (9 : Int) ^ a = z at *
        by_cases hz : 32768 < z * b
        · rw [if_pos hz]
          repeat' (first
            | refine GZp_i ?_ ?_ ?_ ?_ ?_ ?_ ?_ ?_
            | with_reducible first | exact BzZq.mk | refine Tw.ret ?_ | refine ImZq.i fun h => ?_ | refine IkZq.i fun hk => ?_)
          exact ⟨rfl, rfl, rfl⟩
        · rw [if_neg hz]
          repeat' (first
            | refine GZp_i ?_ ?_ ?_ ?_ ?_ ?_ ?_ ?_
            | with_reducible first | exact BzZq.mk | refine Tw.ret ?_ | refine ImZq.i fun h => ?_ | refine IkZq.i fun hk => ?_)
          exact ⟨rfl, rfl, rfl⟩
  · have hE : shapeE a b c = 3 := by unfold shapeE; rw [if_neg h1, if_neg h2]
    rw [hE]
    repeat' (first
      | refine GZp_i ?_ ?_ ?_ ?_ ?_ ?_ ?_ ?_
      | with_reducible first | exact BzZq.mk | refine Tw.ret ?_ | refine ImZq.i fun h => ?_ | refine IkZq.i fun hk => ?_)
    exact ⟨rfl, rfl, rfl⟩

def gbad (vals : List Int) : Bool := vals.any fun v => decide (v < -32768 ∨ 65535 < v)
def chkE (a b c : Int) (vals : List Int) : Int := if shapeE a b c ≠ 0 then shapeE a b c else if (vals.length : Int) ≠ c ^ a.toNat * b then 4 else if gbad vals then 3 else 0
theorem shape_ok {a b c : Int} (h : shapeE a b c = 0) : 1 ≤ a ∧ a ≤ 4 ∧ 1 ≤ b ∧ b ≤ 8 ∧ (c = 2 ∨ c = 3 ∨ c = 4 ∨ c = 5 ∨ c = 6 ∨ c = 7 ∨ c = 9) ∧ c ^ a.toNat * b ≤ 32768 := by
  unfold shapeE at h
  split at h
  · cases h
  · split at h
    · split at h
      · cases h
      · exact ⟨by omega, by omega, by omega, by omega, by assumption, by omega⟩
    · cases h
theorem any_false {vals : List Int} {p : Int → Bool} (h : vals.any p = false) : ∀ v ∈ vals, p v = false := fun v hv => by
  rw [← Bool.not_eq_true, List.any_eq_true] at h
  cases hp : p v
  · rfl
  · exact absurd ⟨v, hv, hp⟩ h
theorem chk_ok {a b c : Int} {vals : List Int} (h : chkE a b c vals = 0) : ∃ inn out s : Nat, a = inn ∧ b = out ∧ c = s ∧ GOk inn out s vals := by
  unfold chkE at h
  split at h
  · contradiction
  · rename_i h1
    simp only [ne_eq, Decidable.not_not] at h1
    obtain ⟨g1, g2, g3, g4, g5, g6⟩ := shape_ok h1
    split at h
    · cases h
    · rename_i h2
      simp only [ne_eq, Decidable.not_not] at h2
      split at h
      · cases h
      · rename_i h3
        obtain ⟨inn, rfl⟩ : ∃ n : Nat, a = n := ⟨a.toNat, by omega⟩
        obtain ⟨out, rfl⟩ : ∃ n : Nat, b = n := ⟨b.toNat, by omega⟩
        obtain ⟨s, rfl⟩ : ∃ n : Nat, c = n := ⟨c.toNat, by omega⟩
        rw [Int.toNat_natCast] at *
        have e : ((s : Int) ^ inn * out) = ((s ^ inn * out : Nat) : Int) := by simp
        rw [e] at h2 g6
        refine ⟨inn, out, s, rfl, rfl, rfl, ⟨by omega, by omega, by omega, by omega, by omega, fun v hv => ?_⟩⟩
        rw [Bool.not_eq_true] at h3
        have := any_false h3 v hv
        simp only [decide_eq_false_iff_not] at this
        omega
theorem gcheck_c (a b c : Int) (vals : List Int) : TC R Try.prog grid_Check_f [.agg [.int .i64 a, .int .i64 b, .int .i64 c, .lst Ei vals]] [] (fun v X => v = .int .i64 (chkE a b c vals) ∧ X = []) := by
  refine tc0 env grid_Check_s (by rfl) ?_
  dsimp only [grid_Check_c]
  have nc := nodes_c a b c
  by_cases h1 : shapeE a b c = 0
  · rw [h1, if_pos rfl] at nc
    have sh := shape_ok h1
    have hE : chkE a b c vals = if (vals.length : Int) ≠ c ^ a.toNat * b then 4 else if gbad vals then 3 else 0 := by unfold chkE; rw [if_neg (by simp [h1])]
    have hz : -9223372036854775808 ≤ c ^ a.toNat * b ∧ c ^ a.toNat * b ≤ 9223372036854775807 := by
      have : 0 ≤ c ^ a.toNat * b := Int.mul_nonneg (Int.pow_nonneg (by omega)) (by omega)
      omega
    rw [hE]
    by_cases h2 : (vals.length : Int) = c ^ a.toNat * b
    · have hlen : vals.length ≤ 32768 := by have := sh.2.2.2.2.2; omega
      rw [if_neg (by simp [h2])]
      repeat' (first
        | ((with_reducible refine TOps.any ?_); refine TOps.callV env (by rfl) (by rfl) (by rfl) (nc) ?_)
        | exact hz
        | refine GZp_i ?_ ?_ ?_ ?_ ?_ ?_ ?_ ?_
        | with_reducible first | exact BzZq.mk | refine Tw.ret ?_ | refine ImZq.i fun h => ?_ | refine IkZq.i fun hk => ?_)
      refine Tw.loopK [29, 30] (fun i : Nat => i ≤ vals.length ∧ ∀ j, j < i → ¬ (vals.getD j 0 < -32768 ∨ 65535 < vals.getD j 0)) (fun i => vals.length - i) (fun i => [(31, .int .i64 i)]) (fun _ => []) ⟨0, ⟨by omega, fun j hj => by omega⟩, TWk.fcanon env [] (by rfl) ?_⟩ (fun i hi => ?_)
      · repeat' (first
          | with_reducible first | exact Conj.nil | refine Conj.cons rfl ?_ | refine Conj.same ?_ | refine Conj.ask ?_ ?_
          | ((with_reducible refine Due.mk ?_); (first | with_reducible rfl | omega | assumption | decide | ((try simp only [goS] at *) <;> (try intro h) <;> (try intro h') <;> (try simp only [goS] at *) <;> (try simp only [rdi, Int.toNat_natCast, Nat.add_zero] at *) <;> (try simp only [rng]) <;> (first | assumption | omega)) | (exact due_app0 (by omega)) | (exact due_app (by omega)) | (intros; simp; done) | (intros; simp; omega)))
          | with_reducible refine Due.mk ?_
          | omega)
      obtain ⟨hi, hg⟩ := hi
      rcases Nat.lt_or_ge i vals.length with hi | hi
      · by_cases hv : vals.getD i 0 < -32768 ∨ 65535 < vals.getD i 0
        · have hb : gbad vals = true := by
            unfold gbad
            rw [List.any_eq_true]
            exact ⟨_, getD_mem (d := 0) hi, decide_eq_true hv⟩
          rw [if_pos hb]
          repeat' (first
            | refine GZp_i ?_ ?_ ?_ ?_ ?_ ?_ ?_ ?_
            | with_reducible first | exact BzZq.mk | refine Tw.ret ?_ | refine ImZq.i fun h => ?_ | refine IkZq.i fun hk => ?_)
          all_goals exact ⟨rfl, rfl, rfl⟩
        · repeat' (first
            | refine GZp_i ?_ ?_ ?_ ?_ ?_ ?_ ?_ ?_
            | with_reducible first | exact BzZq.mk | refine Tw.ret ?_ | refine ImZq.i fun h => ?_ | refine IkZq.i fun hk => ?_)
          refine ⟨i + 1, ⟨by omega, fun j hj => ?_⟩, by omega, TWk.fcanon env [] (by rfl) ?_⟩
          · by_cases e : j = i
            · subst e; exact hv
            · exact hg j (by omega)
          · repeat' (first
              | refine GZ_i ?_ ?_ ?_ ?_ ?_ ?_ ?_ ?_
              | with_reducible first | exact BzZq.mk | refine Tw.ret ?_ | refine ImZq.i fun h => ?_ | refine IkZq.i fun hk => ?_)
      · have hb : gbad vals = false := by
          refine Bool.eq_false_iff.2 fun h => ?_
          simp only [gbad, List.any_eq_true, decide_eq_true_eq] at h
          obtain ⟨v, hv, hh⟩ := h
          obtain ⟨j, hj, rfl⟩ := mem_getD (d := 0) hv
          exact hg j (by omega) hh
        rw [hb]
        repeat' (first
          | refine GZp_i ?_ ?_ ?_ ?_ ?_ ?_ ?_ ?_
          | with_reducible first | exact BzZq.mk | refine Tw.ret ?_ | refine ImZq.i fun h => ?_ | refine IkZq.i fun hk => ?_)
        exact ⟨rfl, rfl, rfl⟩
    · rw [if_pos h2]
      repeat' (first
        | ((with_reducible refine TOps.any ?_); refine TOps.callV env (by rfl) (by rfl) (by rfl) (nc) ?_)
        | exact hz
        | refine GZp_i ?_ ?_ ?_ ?_ ?_ ?_ ?_ ?_
        | with_reducible first | exact BzZq.mk | refine Tw.ret ?_ | refine ImZq.i fun h => ?_ | refine IkZq.i fun hk => ?_)
      exact ⟨rfl, rfl, rfl⟩
  · have hE : chkE a b c vals = shapeE a b c := by unfold chkE; rw [if_pos h1]
    rw [hE]
    rw [if_neg h1] at nc
    repeat' (first
      | ((with_reducible refine TOps.any ?_); refine TOps.callV env (by rfl) (by rfl) (by rfl) (nc) ?_)
      | refine GZp_i ?_ ?_ ?_ ?_ ?_ ?_ ?_ ?_
      | with_reducible first | exact BzZq.mk | refine Tw.ret ?_ | refine ImZq.i fun h => ?_ | refine IkZq.i fun hk => ?_)
    exact ⟨rfl, rfl, rfl⟩
end Go.Proofs.Ytogbkhopanaoiaa
