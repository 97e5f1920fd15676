/- Draw with 3 units (printed by mkdraw.py). -/
import Derived.Test.YthkilkjngincpaaStripDa
import Derived.Test.YthkilkjngincpaaGo
namespace Go.Proofs.Ythkilkjngincpaa
open Go Go.Lite
set_option linter.unusedVariables false
set_option linter.unusedSimpArgs false
set_option maxRecDepth 100000
set_option maxHeartbeats 4000000
-- @simp rdi rd5i rdy

theorem draw3_c (l : List Pt) (W K : Nat) (ok : StOk l 3 W) (hk : 1 ≤ K ∧ K ≤ 1024) :
    TC R Try.prog strip_Draw_f [.lst E5i l, .int .i64 3, .int .i64 W, .int .i64 K] [] (fun v X => v = .tup [.lst E2iLyJ (tab 3 fun u => ((W : Int), (K : Int), colD l W K l.length u)), .int .i64 0] ∧ X = []) := by
  have hw : 1 ≤ W ∧ W ≤ 1024 := by have := ok.w; omega
  have wk : W * K ≤ 1024 * 1024 := Nat.mul_le_mul hw.2 hk.2
  have wk1 : 1 * 1 ≤ W * K := Nat.mul_le_mul hw.1 hk.1
  have ew : (W : Int) * (K : Int) = ((W * K : Nat) : Int) := by simp
  have et : ((W : Int) * (K : Int)).toNat = W * K := by rw [ew]; omega
  have d1 : -9223372036854775808 ≤ (W : Int) * (K : Int) ∧ (W : Int) * (K : Int) ≤ 9223372036854775807 := by rw [ew]; omega
  have ll := ok.len
  have cc := stCheck_y l 3 W ok
  refine tc0 env strip_Draw_s (by rfl) ?_
  dsimp only [strip_Draw_c]
  repeat' (first
    | ((with_reducible refine TOps.any ?_); refine TOps.callV env (by rfl) (by rfl) (by rfl) (cc) ?_)
    | refine GZp_i_5i_y ?_ ?_ ?_ ?_ ?_ ?_ ?_ ?_
    | with_reducible first | exact BzZq.mk | refine Tw.ret ?_ | refine ImZq.i fun h => ?_ | refine IkZq.i fun hk => ?_)
  refine Tw.loopK [0, 2, 3, 34] (fun i : Nat => i ≤ 3) (fun i => 3 - i) (fun i => [(35, .int .i64 i), (11, .sl 3 0 0 3)])
    (fun i => match i with | 0 => [some (.cells [.int .i64 (0 : Int), .int .i64 (0 : Int), .nils, .int .i64 (0 : Int), .int .i64 (0 : Int), .nils, .int .i64 (0 : Int), .int .i64 (0 : Int), .nils])] | 1 => [some (.cells [.int .i64 W, .int .i64 K, .sla 1 1 0 (W * K), .int .i64 (0 : Int), .int .i64 (0 : Int), .nils, .int .i64 (0 : Int), .int .i64 (0 : Int), .nils]), some (.arr Ey (List.replicate (W * K) (0 : Int)))] | 2 => [some (.cells [.int .i64 W, .int .i64 K, .sla 1 1 0 (W * K), .int .i64 W, .int .i64 K, .sla 1 2 0 (W * K), .int .i64 (0 : Int), .int .i64 (0 : Int), .nils]), some (.arr Ey (List.replicate (W * K) (0 : Int))), some (.arr Ey (List.replicate (W * K) (0 : Int)))] | _ => [some (.cells [.int .i64 W, .int .i64 K, .sla 1 1 0 (W * K), .int .i64 W, .int .i64 K, .sla 1 2 0 (W * K), .int .i64 W, .int .i64 K, .sla 1 3 0 (W * K)]), some (.arr Ey (List.replicate (W * K) (0 : Int))), some (.arr Ey (List.replicate (W * K) (0 : Int))), some (.arr Ey (List.replicate (W * K) (0 : Int)))]) ⟨0, by omega, TWk.fcanon env [some 0] (by rfl) ?_⟩ (fun i hi => ?_)
  · repeat' (first
      | refine GZ_i_5i_y ?_ ?_ ?_ ?_ ?_ ?_ ?_ ?_
      | with_reducible first | exact BzZq.mk | refine Tw.ret ?_ | refine ImZq.i fun h => ?_ | refine IkZq.i fun hk => ?_)
  have hi : i = 0 ∨ i = 1 ∨ i = 2 ∨ i = 3 := by omega
  rcases hi with rfl | rfl | rfl | rfl
  · repeat' (first
      | exact d1
      | refine GZy_i_5i_y et ?_ ?_ ?_ ?_ ?_ ?_ ?_ ?_
      | with_reducible first | exact BzZq.mk | refine Tw.ret ?_ | refine ImZq.i fun h => ?_ | refine IkZq.i fun hk => ?_)
    refine ⟨1, by omega, by omega, TWk.fcanon env [some 0, some 1] (by rfl) ?_⟩
    repeat' (first
      | refine GZ_i_5i_y ?_ ?_ ?_ ?_ ?_ ?_ ?_ ?_
      | with_reducible first | exact BzZq.mk | refine Tw.ret ?_ | refine ImZq.i fun h => ?_ | refine IkZq.i fun hk => ?_)
  · repeat' (first
      | exact d1
      | refine GZy_i_5i_y et ?_ ?_ ?_ ?_ ?_ ?_ ?_ ?_
      | with_reducible first | exact BzZq.mk | refine Tw.ret ?_ | refine ImZq.i fun h => ?_ | refine IkZq.i fun hk => ?_)
    refine ⟨2, by omega, by omega, TWk.fcanon env [some 0, some 1, some 2] (by rfl) ?_⟩
    repeat' (first
      | refine GZ_i_5i_y ?_ ?_ ?_ ?_ ?_ ?_ ?_ ?_
      | with_reducible first | exact BzZq.mk | refine Tw.ret ?_ | refine ImZq.i fun h => ?_ | refine IkZq.i fun hk => ?_)
  · repeat' (first
      | exact d1
      | refine GZy_i_5i_y et ?_ ?_ ?_ ?_ ?_ ?_ ?_ ?_
      | with_reducible first | exact BzZq.mk | refine Tw.ret ?_ | refine ImZq.i fun h => ?_ | refine IkZq.i fun hk => ?_)
    refine ⟨3, by omega, by omega, TWk.fcanon env [some 0, some 1, some 2, some 3] (by rfl) ?_⟩
    repeat' (first
      | refine GZ_i_5i_y ?_ ?_ ?_ ?_ ?_ ?_ ?_ ?_
      | with_reducible first | exact BzZq.mk | refine Tw.ret ?_ | refine ImZq.i fun h => ?_ | refine IkZq.i fun hk => ?_)
  · repeat' (first
      | refine GZp_i_5i_y ?_ ?_ ?_ ?_ ?_ ?_ ?_ ?_
      | with_reducible first | exact BzZq.mk | refine Tw.ret ?_ | refine ImZq.i fun h => ?_ | refine IkZq.i fun hk => ?_)
    have zc : ∀ u, List.replicate (W * K) (0 : Int) = colD l W K 0 u := fun u => pix_zero
    refine Tw.loopK [2, 3, 49, 50] (fun j : Nat => j ≤ l.length) (fun j => l.length - j) (fun j => [(51, .int .i64 j), (11, .sl 3 0 0 3)])
      (fun j => [some (.cells [.int .i64 W, .int .i64 K, .sla 1 1 0 (W * K), .int .i64 W, .int .i64 K, .sla 1 2 0 (W * K), .int .i64 W, .int .i64 K, .sla 1 3 0 (W * K)]), some (.arr Ey (colD l W K j 0)), some (.arr Ey (colD l W K j 1)), some (.arr Ey (colD l W K j 2))]) ⟨0, by omega, TWk.fcanon env [some 0, some 1, some 2, some 3] (by rfl) ?_⟩ (fun j hj => ?_)
    · repeat' (first
        | exact (zc 0).symm
        | exact (zc 1).symm
        | exact (zc 2).symm
        | refine GZ_i_5i_y ?_ ?_ ?_ ?_ ?_ ?_ ?_ ?_
        | with_reducible first | exact BzZq.mk | refine Tw.ret ?_ | refine ImZq.i fun h => ?_ | refine IkZq.i fun hk => ?_)
    rcases Nat.lt_or_ge j l.length with hj | hj
    · obtain ⟨X, V, u, kd, zn, hp, hx, hv, hu, hd⟩ := ok.pt hj
      have hxw : X + V ≤ W := by omega
      have hu : u = 0 ∨ u = 1 ∨ u = 2 := by omega
      have hp1 := hp
      simp only [dPt] at hp1
      have g1 : (l.getD j dPt).1 = (X : Int) := by rw [hp]
      have g2 : (l.getD j dPt).2.1 = (V : Int) := by rw [hp]
      have g3 : (l.getD j dPt).2.2.1 = kd := by rw [hp]
      have g4 : (l.getD j dPt).2.2.2.1 = u := by rw [hp]
      have g5 : (l.getD j dPt).2.2.2.2 = zn := by rw [hp]
      have hk1 : (l.getD j (0, 0, 0, 0, 0)).2.2.1 = kd := g3
      rcases hu with rfl | rfl | rfl
      · rcases hd with hd | hd
        all_goals
          repeat' (first
            | refine GZp_i_5i_y ?_ ?_ ?_ ?_ ?_ ?_ ?_ ?_
            | with_reducible first | exact BzZq.mk | refine Tw.ret ?_ | refine ImZq.i fun h => ?_ | refine IkZq.i fun hk => ?_)
          rw [← pix_start hp hxw hv (K := K)]
          refine Tw.loopK [2, 3, 49, 50, 51, 15, 58] (fun y : Nat => y ≤ K) (fun y => K - y) (fun y => [(59, .int .i64 y), (14, .ptr 0 0), (11, .sl 3 1 0 3)])
            (fun y => [some (.cells [.int .i64 X, .int .i64 V, .int .i64 kd, .int .i64 (0 : Int), .int .i64 zn]), some (.cells [.int .i64 W, .int .i64 K, .sla 1 2 0 (W * K), .int .i64 W, .int .i64 K, .sla 1 3 0 (W * K), .int .i64 W, .int .i64 K, .sla 1 4 0 (W * K)]), some (.arr Ey (pixM l W K 0 j (y * W + X))), some (.arr Ey (colD l W K j 1)), some (.arr Ey (colD l W K j 2))]) ⟨0, by omega, TWk.fcanon env [some 4, some 0, some 1, some 2, some 3] (by rfl) ?_⟩ (fun y hy => ?_)
          · repeat' (first
              | exact g1.symm
              | exact g2.symm
              | exact g3.symm
              | exact g4.symm
              | exact g5.symm
              | refine GZ_i_5i_y ?_ ?_ ?_ ?_ ?_ ?_ ?_ ?_
              | with_reducible first | exact BzZq.mk | refine Tw.ret ?_ | refine ImZq.i fun h => ?_ | refine IkZq.i fun hk => ?_)
          rcases Nat.lt_or_ge y K with hy | hy
          · repeat' (first
              | refine GZp_i_5i_y ?_ ?_ ?_ ?_ ?_ ?_ ?_ ?_
              | with_reducible first | exact BzZq.mk | refine Tw.ret ?_ | refine ImZq.i fun h => ?_ | refine IkZq.i fun hk => ?_)
            have e0 : pixM l W K 0 j (y * W + X) = pixM l W K 0 j (y * W + X + 0) := rfl
            rw [e0]
            refine Tw.loopK [2, 3, 49, 50, 51, 15, 58, 59, 16, 63] (fun x : Nat => x ≤ V) (fun x => V - x) (fun x => [(64, .int .i64 x), (14, .ptr 0 0), (11, .sl 3 1 0 3)])
              (fun x => [some (.cells [.int .i64 X, .int .i64 V, .int .i64 kd, .int .i64 (0 : Int), .int .i64 zn]), some (.cells [.int .i64 W, .int .i64 K, .sla 1 2 0 (W * K), .int .i64 W, .int .i64 K, .sla 1 3 0 (W * K), .int .i64 W, .int .i64 K, .sla 1 4 0 (W * K)]), some (.arr Ey (pixM l W K 0 j (y * W + X + x))), some (.arr Ey (colD l W K j 1)), some (.arr Ey (colD l W K j 2))]) ⟨0, by omega, TWk.fcanon env [some 0, some 1, some 2, some 3, some 4] (by rfl) ?_⟩ (fun x hx => ?_)
            · repeat' (first
                | refine GZ_i_5i_y ?_ ?_ ?_ ?_ ?_ ?_ ?_ ?_
                | with_reducible first | exact BzZq.mk | refine Tw.ret ?_ | refine ImZq.i fun h => ?_ | refine IkZq.i fun hk => ?_)
            rcases Nat.lt_or_ge x V with hx | hx
            · obtain ⟨b1, b2, b3, b4, b5⟩ := draw_bd W K X V y x (by omega) hk.2 hw.2 hy hx
              have pl : (pixM l W K 0 j (y * W + X + x)).length = W * K := pixM_len
              repeat' (first
                | exact b1
                | exact b2
                | exact b3
                | refine GZy_i_5i_y (And.intro b4 pl) ?_ ?_ ?_ ?_ ?_ ?_ ?_ ?_
                | with_reducible first | exact BzZq.mk | refine Tw.ret ?_ | refine ImZq.i fun h => ?_ | refine IkZq.i fun hk => ?_)
              refine ⟨x + 1, by omega, by omega, TWk.fcanon env [some 0, some 1, some 2, some 3, some 4] (by rfl) ?_⟩
              repeat' (first
                | exact (pset hp hxw hx b4 (by simp [hd])).symm
                | refine GZ_i_5i_y ?_ ?_ ?_ ?_ ?_ ?_ ?_ ?_
                | with_reducible first | exact BzZq.mk | refine Tw.ret ?_ | refine ImZq.i fun h => ?_ | refine IkZq.i fun hk => ?_)
            · obtain rfl : x = V := by omega
              rw [pix_next hp hxw hv]
              repeat' (first
                | refine GZp_i_5i_y ?_ ?_ ?_ ?_ ?_ ?_ ?_ ?_
                | with_reducible first | exact BzZq.mk | refine Tw.ret ?_ | refine ImZq.i fun h => ?_ | refine IkZq.i fun hk => ?_)
              refine ⟨y + 1, by omega, by omega, TWk.fcanon env [some 0, some 1, some 2, some 3, some 4] (by rfl) ?_⟩
              repeat' (first
                | refine GZ_i_5i_y ?_ ?_ ?_ ?_ ?_ ?_ ?_ ?_
                | with_reducible first | exact BzZq.mk | refine Tw.ret ?_ | refine ImZq.i fun h => ?_ | refine IkZq.i fun hk => ?_)
          · obtain rfl : K = y := by omega
            rw [pix_end]
            repeat' (first
              | refine GZp_i_5i_y ?_ ?_ ?_ ?_ ?_ ?_ ?_ ?_
              | with_reducible first | exact BzZq.mk | refine Tw.ret ?_ | refine ImZq.i fun h => ?_ | refine IkZq.i fun hk => ?_)
            have o1 : colD l W K (j + 1) 1 = colD l W K j 1 := colD_other (by rw [hp]; exact (by decide : ¬ (0 : Int) = 1))
            have o2 : colD l W K (j + 1) 2 = colD l W K j 2 := colD_other (by rw [hp]; exact (by decide : ¬ (0 : Int) = 2))
            refine ⟨j + 1, by omega, by omega, TWk.fcanon env [some 1, some 2, some 3, some 4] (by rfl) ?_⟩
            repeat' (first
              | exact o1
              | exact o2
              | refine GZ_i_5i_y ?_ ?_ ?_ ?_ ?_ ?_ ?_ ?_
              | with_reducible first | exact BzZq.mk | refine Tw.ret ?_ | refine ImZq.i fun h => ?_ | refine IkZq.i fun hk => ?_)
      · rcases hd with hd | hd
        all_goals
          repeat' (first
            | refine GZp_i_5i_y ?_ ?_ ?_ ?_ ?_ ?_ ?_ ?_
            | with_reducible first | exact BzZq.mk | refine Tw.ret ?_ | refine ImZq.i fun h => ?_ | refine IkZq.i fun hk => ?_)
          rw [← pix_start hp hxw hv (K := K)]
          refine Tw.loopK [2, 3, 49, 50, 51, 15, 58] (fun y : Nat => y ≤ K) (fun y => K - y) (fun y => [(59, .int .i64 y), (14, .ptr 0 0), (11, .sl 3 1 0 3)])
            (fun y => [some (.cells [.int .i64 X, .int .i64 V, .int .i64 kd, .int .i64 (1 : Int), .int .i64 zn]), some (.cells [.int .i64 W, .int .i64 K, .sla 1 2 0 (W * K), .int .i64 W, .int .i64 K, .sla 1 3 0 (W * K), .int .i64 W, .int .i64 K, .sla 1 4 0 (W * K)]), some (.arr Ey (colD l W K j 0)), some (.arr Ey (pixM l W K 1 j (y * W + X))), some (.arr Ey (colD l W K j 2))]) ⟨0, by omega, TWk.fcanon env [some 4, some 0, some 1, some 2, some 3] (by rfl) ?_⟩ (fun y hy => ?_)
          · repeat' (first
              | exact g1.symm
              | exact g2.symm
              | exact g3.symm
              | exact g4.symm
              | exact g5.symm
              | refine GZ_i_5i_y ?_ ?_ ?_ ?_ ?_ ?_ ?_ ?_
              | with_reducible first | exact BzZq.mk | refine Tw.ret ?_ | refine ImZq.i fun h => ?_ | refine IkZq.i fun hk => ?_)
          rcases Nat.lt_or_ge y K with hy | hy
          · repeat' (first
              | refine GZp_i_5i_y ?_ ?_ ?_ ?_ ?_ ?_ ?_ ?_
              | with_reducible first | exact BzZq.mk | refine Tw.ret ?_ | refine ImZq.i fun h => ?_ | refine IkZq.i fun hk => ?_)
            have e0 : pixM l W K 1 j (y * W + X) = pixM l W K 1 j (y * W + X + 0) := rfl
            rw [e0]
            refine Tw.loopK [2, 3, 49, 50, 51, 15, 58, 59, 16, 63] (fun x : Nat => x ≤ V) (fun x => V - x) (fun x => [(64, .int .i64 x), (14, .ptr 0 0), (11, .sl 3 1 0 3)])
              (fun x => [some (.cells [.int .i64 X, .int .i64 V, .int .i64 kd, .int .i64 (1 : Int), .int .i64 zn]), some (.cells [.int .i64 W, .int .i64 K, .sla 1 2 0 (W * K), .int .i64 W, .int .i64 K, .sla 1 3 0 (W * K), .int .i64 W, .int .i64 K, .sla 1 4 0 (W * K)]), some (.arr Ey (colD l W K j 0)), some (.arr Ey (pixM l W K 1 j (y * W + X + x))), some (.arr Ey (colD l W K j 2))]) ⟨0, by omega, TWk.fcanon env [some 0, some 1, some 2, some 3, some 4] (by rfl) ?_⟩ (fun x hx => ?_)
            · repeat' (first
                | refine GZ_i_5i_y ?_ ?_ ?_ ?_ ?_ ?_ ?_ ?_
                | with_reducible first | exact BzZq.mk | refine Tw.ret ?_ | refine ImZq.i fun h => ?_ | refine IkZq.i fun hk => ?_)
            rcases Nat.lt_or_ge x V with hx | hx
            · obtain ⟨b1, b2, b3, b4, b5⟩ := draw_bd W K X V y x (by omega) hk.2 hw.2 hy hx
              have pl : (pixM l W K 1 j (y * W + X + x)).length = W * K := pixM_len
              repeat' (first
                | exact b1
                | exact b2
                | exact b3
                | refine GZy_i_5i_y (And.intro b4 pl) ?_ ?_ ?_ ?_ ?_ ?_ ?_ ?_
                | with_reducible first | exact BzZq.mk | refine Tw.ret ?_ | refine ImZq.i fun h => ?_ | refine IkZq.i fun hk => ?_)
              refine ⟨x + 1, by omega, by omega, TWk.fcanon env [some 0, some 1, some 2, some 3, some 4] (by rfl) ?_⟩
              repeat' (first
                | exact (pset hp hxw hx b4 (by simp [hd])).symm
                | refine GZ_i_5i_y ?_ ?_ ?_ ?_ ?_ ?_ ?_ ?_
                | with_reducible first | exact BzZq.mk | refine Tw.ret ?_ | refine ImZq.i fun h => ?_ | refine IkZq.i fun hk => ?_)
            · obtain rfl : x = V := by omega
              rw [pix_next hp hxw hv]
              repeat' (first
                | refine GZp_i_5i_y ?_ ?_ ?_ ?_ ?_ ?_ ?_ ?_
                | with_reducible first | exact BzZq.mk | refine Tw.ret ?_ | refine ImZq.i fun h => ?_ | refine IkZq.i fun hk => ?_)
              refine ⟨y + 1, by omega, by omega, TWk.fcanon env [some 0, some 1, some 2, some 3, some 4] (by rfl) ?_⟩
              repeat' (first
                | refine GZ_i_5i_y ?_ ?_ ?_ ?_ ?_ ?_ ?_ ?_
                | with_reducible first | exact BzZq.mk | refine Tw.ret ?_ | refine ImZq.i fun h => ?_ | refine IkZq.i fun hk => ?_)
          · obtain rfl : K = y := by omega
            rw [pix_end]
            repeat' (first
              | refine GZp_i_5i_y ?_ ?_ ?_ ?_ ?_ ?_ ?_ ?_
              | with_reducible first | exact BzZq.mk | refine Tw.ret ?_ | refine ImZq.i fun h => ?_ | refine IkZq.i fun hk => ?_)
            have o0 : colD l W K (j + 1) 0 = colD l W K j 0 := colD_other (by rw [hp]; exact (by decide : ¬ (1 : Int) = 0))
            have o2 : colD l W K (j + 1) 2 = colD l W K j 2 := colD_other (by rw [hp]; exact (by decide : ¬ (1 : Int) = 2))
            refine ⟨j + 1, by omega, by omega, TWk.fcanon env [some 1, some 2, some 3, some 4] (by rfl) ?_⟩
            repeat' (first
              | exact o0
              | exact o2
              | refine GZ_i_5i_y ?_ ?_ ?_ ?_ ?_ ?_ ?_ ?_
              | with_reducible first | exact BzZq.mk | refine Tw.ret ?_ | refine ImZq.i fun h => ?_ | refine IkZq.i fun hk => ?_)
      · rcases hd with hd | hd
        all_goals
          repeat' (first
            | refine GZp_i_5i_y ?_ ?_ ?_ ?_ ?_ ?_ ?_ ?_
            | with_reducible first | exact BzZq.mk | refine Tw.ret ?_ | refine ImZq.i fun h => ?_ | refine IkZq.i fun hk => ?_)
          rw [← pix_start hp hxw hv (K := K)]
          refine Tw.loopK [2, 3, 49, 50, 51, 15, 58] (fun y : Nat => y ≤ K) (fun y => K - y) (fun y => [(59, .int .i64 y), (14, .ptr 0 0), (11, .sl 3 1 0 3)])
            (fun y => [some (.cells [.int .i64 X, .int .i64 V, .int .i64 kd, .int .i64 (2 : Int), .int .i64 zn]), some (.cells [.int .i64 W, .int .i64 K, .sla 1 2 0 (W * K), .int .i64 W, .int .i64 K, .sla 1 3 0 (W * K), .int .i64 W, .int .i64 K, .sla 1 4 0 (W * K)]), some (.arr Ey (colD l W K j 0)), some (.arr Ey (colD l W K j 1)), some (.arr Ey (pixM l W K 2 j (y * W + X)))]) ⟨0, by omega, TWk.fcanon env [some 4, some 0, some 1, some 2, some 3] (by rfl) ?_⟩ (fun y hy => ?_)
          · repeat' (first
              | exact g1.symm
              | exact g2.symm
              | exact g3.symm
              | exact g4.symm
              | exact g5.symm
              | refine GZ_i_5i_y ?_ ?_ ?_ ?_ ?_ ?_ ?_ ?_
              | with_reducible first | exact BzZq.mk | refine Tw.ret ?_ | refine ImZq.i fun h => ?_ | refine IkZq.i fun hk => ?_)
          rcases Nat.lt_or_ge y K with hy | hy
          · repeat' (first
              | refine GZp_i_5i_y ?_ ?_ ?_ ?_ ?_ ?_ ?_ ?_
              | with_reducible first | exact BzZq.mk | refine Tw.ret ?_ | refine ImZq.i fun h => ?_ | refine IkZq.i fun hk => ?_)
            have e0 : pixM l W K 2 j (y * W + X) = pixM l W K 2 j (y * W + X + 0) := rfl
            rw [e0]
            refine Tw.loopK [2, 3, 49, 50, 51, 15, 58, 59, 16, 63] (fun x : Nat => x ≤ V) (fun x => V - x) (fun x => [(64, .int .i64 x), (14, .ptr 0 0), (11, .sl 3 1 0 3)])
              (fun x => [some (.cells [.int .i64 X, .int .i64 V, .int .i64 kd, .int .i64 (2 : Int), .int .i64 zn]), some (.cells [.int .i64 W, .int .i64 K, .sla 1 2 0 (W * K), .int .i64 W, .int .i64 K, .sla 1 3 0 (W * K), .int .i64 W, .int .i64 K, .sla 1 4 0 (W * K)]), some (.arr Ey (colD l W K j 0)), some (.arr Ey (colD l W K j 1)), some (.arr Ey (pixM l W K 2 j (y * W + X + x)))]) ⟨0, by omega, TWk.fcanon env [some 0, some 1, some 2, some 3, some 4] (by rfl) ?_⟩ (fun x hx => ?_)
            · repeat' (first
                | refine GZ_i_5i_y ?_ ?_ ?_ ?_ ?_ ?_ ?_ ?_
                | with_reducible first | exact BzZq.mk | refine Tw.ret ?_ | refine ImZq.i fun h => ?_ | refine IkZq.i fun hk => ?_)
            rcases Nat.lt_or_ge x V with hx | hx
            · obtain ⟨b1, b2, b3, b4, b5⟩ := draw_bd W K X V y x (by omega) hk.2 hw.2 hy hx
              have pl : (pixM l W K 2 j (y * W + X + x)).length = W * K := pixM_len
              repeat' (first
                | exact b1
                | exact b2
                | exact b3
                | refine GZy_i_5i_y (And.intro b4 pl) ?_ ?_ ?_ ?_ ?_ ?_ ?_ ?_
                | with_reducible first | exact BzZq.mk | refine Tw.ret ?_ | refine ImZq.i fun h => ?_ | refine IkZq.i fun hk => ?_)
              refine ⟨x + 1, by omega, by omega, TWk.fcanon env [some 0, some 1, some 2, some 3, some 4] (by rfl) ?_⟩
              repeat' (first
                | exact (pset hp hxw hx b4 (by simp [hd])).symm
                | refine GZ_i_5i_y ?_ ?_ ?_ ?_ ?_ ?_ ?_ ?_
                | with_reducible first | exact BzZq.mk | refine Tw.ret ?_ | refine ImZq.i fun h => ?_ | refine IkZq.i fun hk => ?_)
            · obtain rfl : x = V := by omega
              rw [pix_next hp hxw hv]
              repeat' (first
                | refine GZp_i_5i_y ?_ ?_ ?_ ?_ ?_ ?_ ?_ ?_
                | with_reducible first | exact BzZq.mk | refine Tw.ret ?_ | refine ImZq.i fun h => ?_ | refine IkZq.i fun hk => ?_)
              refine ⟨y + 1, by omega, by omega, TWk.fcanon env [some 0, some 1, some 2, some 3, some 4] (by rfl) ?_⟩
              repeat' (first
                | refine GZ_i_5i_y ?_ ?_ ?_ ?_ ?_ ?_ ?_ ?_
                | with_reducible first | exact BzZq.mk | refine Tw.ret ?_ | refine ImZq.i fun h => ?_ | refine IkZq.i fun hk => ?_)
          · obtain rfl : K = y := by omega
            rw [pix_end]
            repeat' (first
              | refine GZp_i_5i_y ?_ ?_ ?_ ?_ ?_ ?_ ?_ ?_
              | with_reducible first | exact BzZq.mk | refine Tw.ret ?_ | refine ImZq.i fun h => ?_ | refine IkZq.i fun hk => ?_)
            have o0 : colD l W K (j + 1) 0 = colD l W K j 0 := colD_other (by rw [hp]; exact (by decide : ¬ (2 : Int) = 0))
            have o1 : colD l W K (j + 1) 1 = colD l W K j 1 := colD_other (by rw [hp]; exact (by decide : ¬ (2 : Int) = 1))
            refine ⟨j + 1, by omega, by omega, TWk.fcanon env [some 1, some 2, some 3, some 4] (by rfl) ?_⟩
            repeat' (first
              | exact o0
              | exact o1
              | refine GZ_i_5i_y ?_ ?_ ?_ ?_ ?_ ?_ ?_ ?_
              | with_reducible first | exact BzZq.mk | refine Tw.ret ?_ | refine ImZq.i fun h => ?_ | refine IkZq.i fun hk => ?_)
    · obtain rfl : j = l.length := by omega
      refine Tw.frz env 1 (by rfl) (by rfl) (by rfl) ?_ ?_ ?_
      · repeat' (first
          | exact colD_le
          | refine GZ_i_5i_y ?_ ?_ ?_ ?_ ?_ ?_ ?_ ?_
          | with_reducible first | exact BzZq.mk | refine Tw.ret ?_ | refine ImZq.i fun h => ?_ | refine IkZq.i fun hk => ?_)
      · repeat' (first
          | exact colD_le
          | refine GZ_i_5i_y ?_ ?_ ?_ ?_ ?_ ?_ ?_ ?_
          | with_reducible first | exact BzZq.mk | refine Tw.ret ?_ | refine ImZq.i fun h => ?_ | refine IkZq.i fun hk => ?_)
      rw [colD_cut]
      refine Tw.frz env 2 (by rfl) (by rfl) (by rfl) ?_ ?_ ?_
      · repeat' (first
          | exact colD_le
          | refine GZ_i_5i_y ?_ ?_ ?_ ?_ ?_ ?_ ?_ ?_
          | with_reducible first | exact BzZq.mk | refine Tw.ret ?_ | refine ImZq.i fun h => ?_ | refine IkZq.i fun hk => ?_)
      · repeat' (first
          | exact colD_le
          | refine GZ_i_5i_y ?_ ?_ ?_ ?_ ?_ ?_ ?_ ?_
          | with_reducible first | exact BzZq.mk | refine Tw.ret ?_ | refine ImZq.i fun h => ?_ | refine IkZq.i fun hk => ?_)
      rw [colD_cut]
      refine Tw.frz env 3 (by rfl) (by rfl) (by rfl) ?_ ?_ ?_
      · repeat' (first
          | exact colD_le
          | refine GZ_i_5i_y ?_ ?_ ?_ ?_ ?_ ?_ ?_ ?_
          | with_reducible first | exact BzZq.mk | refine Tw.ret ?_ | refine ImZq.i fun h => ?_ | refine IkZq.i fun hk => ?_)
      · repeat' (first
          | exact colD_le
          | refine GZ_i_5i_y ?_ ?_ ?_ ?_ ?_ ?_ ?_ ?_
          | with_reducible first | exact BzZq.mk | refine Tw.ret ?_ | refine ImZq.i fun h => ?_ | refine IkZq.i fun hk => ?_)
      rw [colD_cut]
      refine Tw.weaken (TWk.re2 (F' := [(51, .int .i64 l.length), (11, .sla 3 0 0 3), (2, .int .i64 W), (3, .int .i64 K), (49, .lst E5i l), (50, .int .i64 l.length)]) (H' := [some (.arr E2iLyJ [((W : Int), (K : Int), colD l W K l.length 0), ((W : Int), (K : Int), colD l W K l.length 1), ((W : Int), (K : Int), colD l W K l.length 2)]), none, none, none]) (by rfl) (by rfl)) ?_
      repeat' (first
        | ((with_reducible refine Tw.retI ?_); refine Tw.frz env 0 (by rfl) (by rfl) (by rfl) ?_ ?_ (Tw.ret ?_))
        | refine GZp_i_5i_y ?_ ?_ ?_ ?_ ?_ ?_ ?_ ?_
        | with_reducible first | exact BzZq.mk | refine Tw.ret ?_ | refine ImZq.i fun h => ?_ | refine IkZq.i fun hk => ?_)
      exact ⟨rfl, rfl, rfl⟩
end Go.Proofs.Ythkilkjngincpaa
