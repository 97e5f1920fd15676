/- Grids with more nodes between those of a grid. -/
import Derived.Test.YthnfbdihihhoiaaGridM
import Derived.Test.YthnfbdihihhoiaaNear
namespace Go.Proofs.Ythnfbdihihhoiaa
open Go Go.Lite
set_option linter.unusedVariables false
set_option linter.unusedSimpArgs false
set_option maxRecDepth 100000
set_option maxHeartbeats 4000000

theorem sumN_block {f : Nat → Int} {b : Nat} : ∀ {m : Nat}, sumN f (m * b) = sumN (fun r => sumN (fun u => f (r * b + u)) b) m
  | 0 => by simp [sumN]
  | m + 1 => by rw [Nat.add_mul, Nat.one_mul, sumN_add, sumN_block]; rfl
theorem sumN_mulR {f : Nat → Int} {c : Int} {n : Nat} : sumN (fun i => c * f i) n = c * sumN f n := by
  rw [sumN_congr (g := fun i => f i * c) fun i _ => Int.mul_comm _ _, sumN_mul, Int.mul_comm]
theorem sumN_comm {f : Nat → Nat → Int} {m : Nat} : ∀ {n : Nat}, sumN (fun i => sumN (fun j => f i j) m) n = sumN (fun j => sumN (fun i => f i j) n) m
  | 0 => (sumN_zero fun _ _ => rfl).symm
  | n + 1 => by
    simp only [sumN]
    rw [sumN_comm]
    have add : ∀ k, sumN (fun j => sumN (fun i => f i j) n) k + sumN (fun j => f n j) k = sumN (fun j => sumN (fun i => f i j) n + f n j) k := fun k => by
      induction k with
      | zero => rfl
      | succ k ih => simp only [sumN]; rw [← ih]; omega
    exact add m
theorem map_tab {f : Nat → Nat} {x : Nat → Nat} {n : Nat} : (tab n x).map f = tab n fun i => f (x i) := by simp [tab, List.map_map, Function.comp]
/-- The exact values at the nodes of the finer grid, summed up. -/
theorem refine_exact {vals : List Int} {out s o inn b m : Nat} (hb : 0 < b) (hm : 0 < m) (x : Nat → Nat) :
    sumN (fun t => graw vals out s (m * b) o (tab inn fun k => (x k + t) / b * b)) b = b * graw vals out s (m * b) o (tab inn x) := by
  -- the value at a node of the finer grid
  have node : ∀ j : Nat → Nat, graw vals out s (m * b) o (tab inn fun k => j k * b) = b * sumN (fun r => gnode vals out s o (tab inn fun k => (j k + r) / m)) m := fun j => by
    unfold graw
    rw [sumN_block, ← sumN_mulR]
    refine sumN_congr fun r hr => ?_
    refine sumN_const fun u hu => ?_
    congr 1
    rw [map_tab]
    refine tab_congr fun k _ => ?_
    rw [Nat.mul_comm m b, ← Nat.div_div_eq_div_mul, show j k * b + (r * b + u) = b * (j k + r) + u by rw [Nat.mul_add, Nat.mul_comm b, Nat.mul_comm b]; omega, Nat.mul_add_div hb, Nat.div_eq_of_lt hu, Nat.add_zero]
  rw [sumN_congr fun t ht => node fun k => (x k + t) / b, sumN_mulR]
  congr 1
  rw [sumN_comm]
  unfold graw
  rw [sumN_block]
  refine sumN_congr fun r hr => sumN_congr fun t ht => ?_
  congr 1
  rw [map_tab]
  refine tab_congr fun k _ => ?_
  rw [Nat.mul_comm m b, ← Nat.div_div_eq_div_mul, show x k + (r * b + t) = x k + t + r * b by omega, Nat.add_mul_div_right _ _ hb]
theorem near_bd {n d : Int} (hd : 0 < d) : 2 * (d * near n d) ≤ 2 * n + d ∧ 2 * n + d < 2 * (d * near n d) + 2 * d := by
  unfold near
  have h1 := Int.mul_ediv_add_emod (2 * n + d) (2 * d)
  have h2 := Int.emod_nonneg (2 * n + d) (show 2 * d ≠ 0 by omega)
  have h3 := Int.emod_lt_of_pos (2 * n + d) (show 0 < 2 * d by omega)
  have h4 : 2 * d * ((2 * n + d) / (2 * d)) = 2 * (d * ((2 * n + d) / (2 * d))) := Int.mul_assoc _ _ _
  omega
/-- Values rounded at the nodes of the finer grid. -/
theorem refine_near {b m : Nat} (hb : 0 < b) (hm : 0 < m) {G W : Nat → Int} {F R : Int} (hW : ∀ t, t < b → W t = near (G t) ((m * b : Nat) : Int)) (hR : R = sumN W b) (hF : sumN G b = b * F) :
    near F ((m * b : Nat) : Int) - near R b ≤ 1 ∧ near R b - near F ((m * b : Nat) : Int) ≤ 1 := by
  have hst : 0 < m * b := Nat.mul_pos hm hb
  generalize hs : m * b = st at *
  have each : ∀ t, t < b → -(st : Int) ≤ 2 * (st * W t - G t) ∧ 2 * (st * W t - G t) ≤ st := fun t ht => by
    have := near_bd (n := G t) (d := (st : Int)) (by omega)
    rw [← hW t ht] at this
    omega
  have all : ∀ n, n ≤ b → -((n : Int) * st) ≤ 2 * (st * sumN W n - sumN G n) ∧ 2 * (st * sumN W n - sumN G n) ≤ (n : Int) * st := by
    intro n
    induction n with
    | zero => intro _; simp [sumN]
    | succ n ih =>
      intro hn
      have h1 := ih (by omega)
      have h2 := each n (by omega)
      simp only [sumN]
      rw [Int.mul_add, Int.natCast_add, Int.add_mul]
      simp only [Int.natCast_one, Int.one_mul]
      omega
  have h := all b (Nat.le_refl _)
  rw [← hR, hF] at h
  have f1 := near_bd (n := F) (d := (st : Int)) (by omega)
  have r1 := near_bd (n := R) (d := (b : Int)) (by omega)
  generalize near F (st : Int) = v at *
  generalize near R (b : Int) = w at *
  -- all multiplied by b and st
  have hbp : (0 : Int) < b := by omega
  have hsp : (0 : Int) < st := by omega
  have hbs : (0 : Int) < (b : Int) * st := Int.mul_pos hbp hsp
  have e1 : (b : Int) * (2 * (st * v)) ≤ b * (2 * F + st) := Int.mul_le_mul_of_nonneg_left f1.1 (by omega)
  have e2 : (b : Int) * (2 * F + st) < b * (2 * (st * v) + 2 * st) := Int.mul_lt_mul_of_pos_left f1.2 hbp
  have e3 : (st : Int) * (2 * (b * w)) ≤ st * (2 * R + b) := Int.mul_le_mul_of_nonneg_left r1.1 (by omega)
  have e4 : (st : Int) * (2 * R + b) < st * (2 * (b * w) + 2 * b) := Int.mul_lt_mul_of_pos_left r1.2 hsp
  have n1 : (b : Int) * (2 * (st * v)) = 2 * ((b : Int) * st * v) := by rw [Int.mul_left_comm, Int.mul_assoc]
  have n2 : (b : Int) * (2 * F + st) = 2 * ((b : Int) * F) + b * st := by rw [Int.mul_add, Int.mul_left_comm]
  have n3 : (b : Int) * (2 * (st * v) + 2 * st) = 2 * ((b : Int) * st * v) + 2 * (b * st) := by rw [Int.mul_add, n1, Int.mul_left_comm (b : Int) 2 st]
  have n4 : (st : Int) * (2 * (b * w)) = 2 * ((b : Int) * st * w) := by rw [Int.mul_left_comm (st : Int) 2, ← Int.mul_assoc (st : Int) b w, Int.mul_comm (st : Int) b]
  have n5 : (st : Int) * (2 * R + b) = 2 * ((st : Int) * R) + b * st := by rw [Int.mul_add, Int.mul_left_comm, Int.mul_comm (st : Int) b]
  have n6 : (st : Int) * (2 * (b * w) + 2 * b) = 2 * ((b : Int) * st * w) + 2 * (b * st) := by rw [Int.mul_add, n4, Int.mul_left_comm (st : Int) 2 b, Int.mul_comm (st : Int) b]
  rw [n1, n2] at e1
  rw [n2, n3] at e2
  rw [n4, n5] at e3
  rw [n5, n6] at e4
  generalize (b : Int) * st = P at *
  constructor
  · refine Int.not_lt.1 fun hc => ?_
    have : P * (w + 2) ≤ P * v := Int.mul_le_mul_of_nonneg_left (by omega) (by omega)
    rw [Int.mul_add] at this
    omega
  · refine Int.not_lt.1 fun hc => ?_
    have : P * (v + 2) ≤ P * w := Int.mul_le_mul_of_nonneg_left (by omega) (by omega)
    rw [Int.mul_add] at this
    omega
end Go.Proofs.Ythnfbdihihhoiaa
