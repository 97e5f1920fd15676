/- Bitmaps: stride, Is, Check, Mark. -/
import Derived.Test.YtihminfnphichaaBm
import Derived.Test.YtihminfnphichaaX0
import Derived.Test.YtihminfnphichaaGo
namespace Go.Proofs.Ytihminfnphichaa
open Go Go.Lite
set_option linter.unusedVariables false
set_option linter.unusedSimpArgs false
set_option maxRecDepth 100000
set_option maxHeartbeats 4000000
-- @simp rdi rdy

theorem stride_c (w : Nat) (h : Due (w ≤ 1024)) : TC R Try.prog bitmap_stride_f [.int .i64 w] [] (fun v X => v = .int .i64 (st w) ∧ X = []) := by
  dsimp only [Due] at h
  have e : quo ((w : Int) + 7) 8 = (st w : Int) := by rw [quo_nn (by omega)]; unfold st; omega
  have hb : st w ≤ 128 := by unfold st; omega
  refine tc0 env bitmap_stride_s (by rfl) ?_
  dsimp only [bitmap_stride_c]
  repeat' (first
    | refine GZy_i_y e ?_ ?_ ?_ ?_ ?_ ?_ ?_ ?_
    | with_reducible first | exact BzZq.mk | refine Tw.ret ?_ | refine ImZq.i fun h => ?_ | refine IkZq.i fun hk => ?_)
  exact ⟨rfl, congrArg (TV.int .i64) e, rfl⟩

theorem is_c (w h_1 : Nat) (d : List Int) (x y : Int) (k : Due (BmOk w h_1 d)) : TC R Try.prog bitmap_Is_f [.pel [.int .i64 w, .int .i64 h_1, .lst Ey d], .int .i64 x, .int .i64 y] [] (fun v X => v = .bool (px w h_1 d x y) ∧ X = []) := by
  dsimp only [Due] at k
  have hw := k.w1
  have hh := k.h1
  refine tc0 env bitmap_Is_s (by rfl) ?_
  dsimp only [bitmap_Is_c]
  by_cases hin : 0 ≤ x ∧ x < w ∧ 0 ≤ y ∧ y < h_1
  · obtain ⟨a, rfl⟩ : ∃ a : Nat, x = a := ⟨x.toNat, by omega⟩
    obtain ⟨b, rfl⟩ : ∃ b : Nat, y = b := ⟨y.toNat, by omega⟩
    have hl := at8_lt (w := w) (h := h_1) (x := a) (y := b) (by omega) (by omega)
    have hlen := k.len
    have hlb := len_bd hw hh
    have hby := k.byte (at8 w a b) (by omega)
    have q1 : quo (a : Int) 8 = ((a / 8 : Nat) : Int) := by rw [quo_nn (by omega)]; omega
    have q2 : rem (a : Int) 8 = ((a % 8 : Nat) : Int) := by rw [rem_nn (by omega)]; omega
    have q3 : (b : Int) * (st w : Int) + ((a / 8 : Nat) : Int) = ((at8 w a b : Nat) : Int) := by unfold at8; simp
    have q4 : 0 ≤ (b : Int) * (st w : Int) ∧ (b : Int) * (st w : Int) ≤ ((at8 w a b : Nat) : Int) := ⟨Int.mul_nonneg (by omega) (by omega), by omega⟩
    have q5 : (0 : Int) ≤ (128 : Int) / 2 ^ (a % 8) ∧ (128 : Int) / 2 ^ (a % 8) ≤ 255 := by
      rw [sh_pow (by omega)]
      have h7 : (2 : Nat) ^ (7 - a % 8) ≤ 2 ^ 7 := Nat.pow_le_pow_right (by omega) (by omega)
      generalize (2 : Nat) ^ (7 - a % 8) = m at *
      omega
    have sc := stride_c w (by unfold Due; omega)
    repeat' (first
      | ((with_reducible refine TDr.any ?_); refine TDr.callE env (by first | rfl | assumption) (by rfl) (by rfl) ?_ (sc) (by rfl) (by rfl) ?_)
      | refine GZy_i_y (And.intro q1 (And.intro q2 q3)) ?_ ?_ ?_ ?_ ?_ ?_ ?_ ?_
      | with_reducible first | exact BzZq.mk | refine Tw.ret ?_ | refine ImZq.i fun h => ?_ | refine IkZq.i fun hk => ?_)
    refine ⟨rfl, congrArg TV.bool ?_, rfl⟩
    rw [q1, q2, q3, Int.toNat_natCast, Int.toNat_natCast]
    have hb : (!decide (band (d.getD (at8 w a b) 0) ((128 : Int) / 2 ^ (a % 8)) = 0)) = bt (d.getD (at8 w a b) 0) (a % 8) := by
      simp only [band_bt (show a % 8 < 8 by omega)]
      cases bt (d.getD (at8 w a b) 0) (a % 8) <;> rfl
    have hd : decide (0 ≤ (a : Int) ∧ (a : Int) < w ∧ 0 ≤ (b : Int) ∧ (b : Int) < h_1) = true := decide_eq_true hin
    unfold px
    rw [hd, Int.toNat_natCast, Int.toNat_natCast, ← hb]
    simp only [hin, decide_true, Bool.true_and]
    rfl
  · rw [px_out hin]
    repeat' (first
      | refine GZp_i_y ?_ ?_ ?_ ?_ ?_ ?_ ?_ ?_
      | with_reducible first | exact BzZq.mk | refine Tw.ret ?_ | refine ImZq.i fun h => ?_ | refine IkZq.i fun hk => ?_)
    all_goals exact ⟨rfl, rfl, rfl⟩

theorem bCheck_c (W H : Int) (d : List Int) (hd : Due (∀ i, i < d.length → 0 ≤ d.getD i 0 ∧ d.getD i 0 ≤ 255)) : TC R Try.prog bitmap_Check_f [.agg [.int .i64 W, .int .i64 H, .lst Ey d]] [] (fun v X => v = .int .i64 (bitsE W H d) ∧ X = []) := by
  dsimp only [Due] at hd
  refine tc0 env bitmap_Check_s (by rfl) ?_
  dsimp only [bitmap_Check_c]
  by_cases hh : W < 1 ∨ 1024 < W ∨ H < 1 ∨ 1024 < H
  · repeat' (first
      | refine GZp_i_y ?_ ?_ ?_ ?_ ?_ ?_ ?_ ?_
      | with_reducible first | exact BzZq.mk | refine Tw.ret ?_ | refine ImZq.i fun h => ?_ | refine IkZq.i fun hk => ?_)
    exact ⟨rfl, by rw [bitsE, if_pos hh], rfl⟩
  obtain ⟨w, rfl⟩ : ∃ w : Nat, W = w := ⟨W.toNat, by omega⟩
  obtain ⟨k, rfl⟩ : ∃ k : Nat, H = k := ⟨H.toNat, by omega⟩
  have hw : 1 ≤ w ∧ w ≤ 1024 := by omega
  have hk : 1 ≤ k ∧ k ≤ 1024 := by omega
  have sc := stride_c w (by unfold Due; omega)
  have hlb := len_bd hw hk
  have sb := st_bd hw
  have e1 : (st w : Int) * (k : Int) = ((st w * k : Nat) : Int) := by simp
  by_cases hl : d.length = st w * k
  · obtain ⟨u, hu⟩ : ∃ u : Nat, u = 8 * st w - w := ⟨_, rfl⟩
    have hu7 : u ≤ 7 := by unfold st at hu; omega
    have hui : 8 * (st w : Int) - (w : Int) = (u : Int) := by unfold st at hu ⊢; omega
    have hp : (2 : Nat) ^ u ≤ 2 ^ 7 := Nat.pow_le_pow_right (by omega) hu7
    have hpp := Nat.two_pow_pos u
    have h2 : (2 : Int) ^ u = ((2 ^ u : Nat) : Int) := by simp
    have ev : bitsE w k d = @ite _ (∀ y, y < k → band (d.getD (y * st w + st w - 1) 0) ((2 ^ u - 1 : Nat) : Int) = 0) (Classical.propDecidable _) 0 4 := by
      rw [bitsE, if_neg hh, if_neg (by simpa using hl)]
      simp only [Int.toNat_natCast]
      congr 1
      apply propext
      have cond : ∀ b : Nat, w ≤ 8 * (st w - 1) + b ↔ 8 - u ≤ b := fun b => by unfold st at hu ⊢; omega
      constructor
      · intro h y hy
        obtain ⟨g1, g2⟩ := at_last (w := w) hy (by omega)
        rw [band_low (hd _ (by rw [hl]; exact g1)) hu7]
        intro b hb hc
        rw [← g2]; exact h y b hy hb ((cond b).2 hc)
      · intro h y b hy hb hc
        obtain ⟨g1, g2⟩ := at_last (w := w) hy (by omega)
        rw [g2]
        exact (band_low (hd _ (by rw [hl]; exact g1)) hu7).1 (h y hy) b hb ((cond b).1 hc)
    have e4 : ((1 * 2 ^ u : Int) % 256 - 1) % 256 = ((2 ^ u - 1 : Nat) : Int) := by
      rw [h2]
      generalize (2 : Nat) ^ u = m at *
      omega
    rw [ev]
    clear ev
    generalize hM : 2 ^ u - 1 = M at *
    have hM7 : M ≤ 127 := by omega
    have hidx : ∀ y, y < k → y * st w + st w - 1 < st w * k := fun y hy => (at_last hy (by omega)).1
    have hyb : ∀ y, y < k → y * st w ≤ 131072 := fun y hy => by have := hidx y hy; omega
    repeat' (first
      | ((with_reducible refine TOps.any ?_); refine TOps.callV env (by rfl) (by rfl) (by rfl) (sc) ?_)
      | refine GZy_i_y (And.intro hui (And.intro e1 (And.intro e4 hl))) ?_ ?_ ?_ ?_ ?_ ?_ ?_ ?_
      | with_reducible first | exact BzZq.mk | refine Tw.ret ?_ | refine ImZq.i fun h => ?_ | refine IkZq.i fun hk => ?_)
    · refine Tw.loopK [1, 3, 4, 45] (fun y : Nat => y ≤ k ∧ ∀ j, j < y → band (d.getD (j * st w + st w - 1) 0) (M : Int) = 0) (fun y => k - y) (fun y => [(46, .int .i64 y)]) (fun _ => [some (.cells [.int .i64 w, .int .i64 k, .lst Ey d])]) ⟨0, ⟨by omega, fun j hj => by omega⟩, TWk.fcanon env [some 0] (by rfl) ?_⟩ (fun y hy => ?_)
      · repeat' (first
          | refine GZ_i_y ?_ ?_ ?_ ?_ ?_ ?_ ?_ ?_
          | with_reducible first | exact BzZq.mk | refine Tw.ret ?_ | refine ImZq.i fun h => ?_ | refine IkZq.i fun hk => ?_)
      obtain ⟨hy, hq⟩ := hy
      rcases Nat.lt_or_ge y k with hy | hy
      · have i1 := hidx y hy
        have i2 := hyb y hy
        have e5 : (y : Int) * (st w : Int) = ((y * st w : Nat) : Int) := by simp
        have e6 : ((y * st w : Nat) : Int) + (st w : Int) - 1 = ((y * st w + st w - 1 : Nat) : Int) := by omega
        have i3 := hd (y * st w + st w - 1) (by omega)
        repeat' (first
          | refine GZy_i_y (And.intro hui (And.intro e4 (And.intro e5 e6))) ?_ ?_ ?_ ?_ ?_ ?_ ?_ ?_
          | with_reducible first | exact BzZq.mk | refine Tw.ret ?_ | refine ImZq.i fun h => ?_ | refine IkZq.i fun hk => ?_)
        · exact ⟨rfl, by rw [if_neg fun hh => h (hh y hy)], rfl⟩
        · refine ⟨y + 1, ⟨by omega, fun j hj => ?_⟩, by omega, TWk.fcanon env [some 0] (by rfl) ?_⟩
          · by_cases e : j = y
            · subst e; exact h
            · exact hq j (by omega)
          · repeat' (first
              | refine GZ_i_y ?_ ?_ ?_ ?_ ?_ ?_ ?_ ?_
              | with_reducible first | exact BzZq.mk | refine Tw.ret ?_ | refine ImZq.i fun h => ?_ | refine IkZq.i fun hk => ?_)
      · repeat' (first
          | refine GZp_i_y ?_ ?_ ?_ ?_ ?_ ?_ ?_ ?_
          | with_reducible first | exact BzZq.mk | refine Tw.ret ?_ | refine ImZq.i fun h => ?_ | refine IkZq.i fun hk => ?_)
        exact ⟨rfl, by rw [if_pos fun j hj => hq j (by omega)], rfl⟩
    · have hM0 : M = 0 := by omega
      refine ⟨rfl, ?_, rfl⟩
      rw [if_pos]
      intro y hy
      rw [hM0]
      simp [band]
  · have ev : bitsE w k d = 4 := by rw [bitsE, if_neg hh, if_pos (by simpa using hl)]
    repeat' (first
      | ((with_reducible refine TOps.any ?_); refine TOps.callV env (by rfl) (by rfl) (by rfl) (sc) ?_)
      | refine GZy_i_y e1 ?_ ?_ ?_ ?_ ?_ ?_ ?_ ?_
      | with_reducible first | exact BzZq.mk | refine Tw.ret ?_ | refine ImZq.i fun h => ?_ | refine IkZq.i fun hk => ?_)
    exact ⟨rfl, by rw [ev], rfl⟩
theorem bCheck_y (w h : Nat) (d : List Int) (k : Due (BmOk w h d)) : TC R Try.prog bitmap_Check_f [.agg [.int .i64 w, .int .i64 h, .lst Ey d]] [] (fun v X => v = .int .i64 0 ∧ X = []) := by
  have := bCheck_c w h d k.byte
  rwa [(bitsE_ok k.byte).2 ⟨w, h, rfl, rfl, k⟩] at this
end Go.Proofs.Ytihminfnphichaa
