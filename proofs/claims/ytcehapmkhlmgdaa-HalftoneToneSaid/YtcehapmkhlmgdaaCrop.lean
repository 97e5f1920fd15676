/- Bitmaps: Crop. -/
import Derived.Test.YtcehapmkhlmgdaaBits3
import Derived.Test.YtcehapmkhlmgdaaBm
import Derived.Test.YtcehapmkhlmgdaaGo
namespace Go.Proofs.Ytcehapmkhlmgdaa
open Go Go.Lite
set_option linter.unusedVariables false
set_option linter.unusedSimpArgs false
set_option maxRecDepth 100000
set_option maxHeartbeats 4000000
-- @macs Bits3
-- @simp rdi rdy

theorem fromCrop_c (w k : Nat) (a b u v : Int) (d : List Int) (g : Nat → Nat → Bool) (hw : Due (1 ≤ w ∧ w ≤ 1024)) (hk : Due (1 ≤ k ∧ k ≤ 1024))
    (hf : ∀ x y : Nat, x < w → y < k → TC R Try.prog bitmap_Crop_1_f [.int .i64 x, .int .i64 y, .pel [.int .i64 a, .int .i64 b, .lst Ey d], .pel [.int .i64 u], .pel [.int .i64 v]] [] (fun v X => v = .bool (g x y) ∧ X = [])) :
    TC R Try.prog bitmap_from_f [.int .i64 w, .int .i64 k, .fn bitmap_Crop_1_f [.pel [.int .i64 a, .int .i64 b, .lst Ey d], .pel [.int .i64 u], .pel [.int .i64 v]]] [] (fun v X => v = .agg [.int .i64 w, .int .i64 k, .sla 1 0 0 (st w * k)] ∧ X = [some (.arr Ey (bm w k g))]) := by
  dsimp only [Due] at hw hk
  have hlb := len_bd hw hk
  have sb := st_bd hw
  have bc := blank_c w k hw hk
  rw [bm_congr (g := upto g 0 0) fun x y _ _ => upto_none.symm] at bc
  have raw : TC R Try.prog bitmap_from_f [.int .i64 w, .int .i64 k, .fn bitmap_Crop_1_f [.pel [.int .i64 a, .int .i64 b, .lst Ey d], .pel [.int .i64 u], .pel [.int .i64 v]]] [] (fun v X => v = .agg [.int .i64 w, .int .i64 k, .sla 1 1 0 (st w * k)] ∧ ∃ a b, X = [a, some (.arr Ey (bm w k g)), b]) := by
    refine tc env bitmap_from_s (by rfl) ?_
    dsimp only [bitmap_from_c]
    repeat' (first
      | ((with_reducible refine TOps.any ?_); refine TOps.callV env (by rfl) (by rfl) (by rfl) (bc) ?_)
      | refine GZp_i_y ?_ ?_ ?_ ?_ ?_ ?_ ?_ ?_
      | with_reducible first | exact BzZq.mk | refine Tw.ret ?_ | refine ImZq.i fun h => ?_ | refine IkZq.i fun hk => ?_)
    refine Tw.loopK [0, 1, 2] (fun y : Nat => y ≤ k) (fun y => k - y) (fun y => [(13, .int .i64 k), (14, .int .i64 y), (6, .ptr 0 0), (7, .ptr 2 0)])
      (fun y => [some (.cells [.int .i64 0, .int .i64 0, .nils]), some (.arr Ey (bm w k (upto g 0 y))), some (.cells [.int .i64 w, .int .i64 k, .sla 1 1 0 (st w * k)])]) ⟨0, by omega, TWk.fcanon env [some 0, some 1, some 2] (by rfl) ?_⟩ (fun y hy => ?_)
    · repeat' (first
        | refine GZ_i_y ?_ ?_ ?_ ?_ ?_ ?_ ?_ ?_
        | with_reducible first | exact BzZq.mk | refine Tw.ret ?_ | refine ImZq.i fun h => ?_ | refine IkZq.i fun hk => ?_)
    rcases Nat.lt_or_ge y k with hy | hy
    · repeat' (first
        | refine GZp_i_y ?_ ?_ ?_ ?_ ?_ ?_ ?_ ?_
        | with_reducible first | exact BzZq.mk | refine Tw.ret ?_ | refine ImZq.i fun h => ?_ | refine IkZq.i fun hk => ?_)
      refine Tw.loopK [0, 1, 2, 13, 14, 6, 7, 8] (fun x : Nat => x ≤ w) (fun x => w - x) (fun x => [(17, .int .i64 w), (18, .int .i64 x)])
        (fun x => [some (.cells [.int .i64 0, .int .i64 0, .nils]), some (.arr Ey (bm w k (upto g x y))), some (.cells [.int .i64 w, .int .i64 k, .sla 1 1 0 (st w * k)])]) ⟨0, by omega, TWk.fcanon env [some 0, some 1, some 2] (by rfl) ?_⟩ (fun x hx => ?_)
      · repeat' (first
          | refine GZ_i_y ?_ ?_ ?_ ?_ ?_ ?_ ?_ ?_
          | with_reducible first | exact BzZq.mk | refine Tw.ret ?_ | refine ImZq.i fun h => ?_ | refine IkZq.i fun hk => ?_)
      rcases Nat.lt_or_ge x w with hx | hx
      · have fc := hf x y hx hy
        have hbd := bm_bd (w := w) (h := k) (f := upto g x y) (at8_lt hx hy)
        have hbl := bm_len (w := w) (h := k) (f := upto g x y)
        have hmk := bm_mark (f := upto g x y) hx hy
        have mc := mark_c w k (bm w k (upto g x y)) x y hw hk hbl hbd hx hy
        rw [hmk] at mc
        cases hg : g x y
        · rw [hg] at fc
          rw [bm_congr fun i j _ _ => upto_no hg i j] at *
          repeat' (first
            | ((with_reducible refine TOps.any ?_); refine TOps.callV env (by rfl) (by rfl) (by rfl) (fc) ?_)
            | refine GZp_i_y ?_ ?_ ?_ ?_ ?_ ?_ ?_ ?_
            | with_reducible first | exact BzZq.mk | refine Tw.ret ?_ | refine ImZq.i fun h => ?_ | refine IkZq.i fun hk => ?_)
          refine ⟨x + 1, by omega, by omega, TWk.fcanon env [some 0, some 1, some 2] (by rfl) ?_⟩
          repeat' (first
            | refine GZ_i_y ?_ ?_ ?_ ?_ ?_ ?_ ?_ ?_
            | with_reducible first | exact BzZq.mk | refine Tw.ret ?_ | refine ImZq.i fun h => ?_ | refine IkZq.i fun hk => ?_)
        · rw [hg] at fc
          rw [bm_congr (f := fun i j => upto g x y i j || (decide (i = x) && decide (j = y))) fun i j _ _ => upto_yes hg i j] at mc
          repeat' (first
            | ((with_reducible refine TOps.any ?_); refine TOps.callV env (by rfl) (by rfl) (by rfl) (fc) ?_)
            | ((with_reducible refine TOps.any ?_); refine TOps.callHE env [2, 1] (mc) (by rfl) (by rfl) (by rfl) (by rfl) (by rfl) (by rfl) (by repeat' (first | exact trivial | refine ⟨rfl, ?_⟩)) ?_)
            | refine GZp_i_y ?_ ?_ ?_ ?_ ?_ ?_ ?_ ?_
            | with_reducible first | exact BzZq.mk | refine Tw.ret ?_ | refine ImZq.i fun h => ?_ | refine IkZq.i fun hk => ?_)
          refine ⟨x + 1, by omega, by omega, TWk.fcanon env [some 0, some 1, some 2] (by rfl) ?_⟩
          repeat' (first
            | refine GZ_i_y ?_ ?_ ?_ ?_ ?_ ?_ ?_ ?_
            | with_reducible first | exact BzZq.mk | refine Tw.ret ?_ | refine ImZq.i fun h => ?_ | refine IkZq.i fun hk => ?_)
      · obtain rfl : x = w := by omega
        rw [bm_congr fun i j hi _ => upto_row (g := g) (y := y) hi]
        repeat' (first
          | refine GZp_i_y ?_ ?_ ?_ ?_ ?_ ?_ ?_ ?_
          | with_reducible first | exact BzZq.mk | refine Tw.ret ?_ | refine ImZq.i fun h => ?_ | refine IkZq.i fun hk => ?_)
        refine ⟨y + 1, by omega, by omega, TWk.fcanon env [some 0, some 1, some 2] (by rfl) ?_⟩
        repeat' (first
          | refine GZ_i_y ?_ ?_ ?_ ?_ ?_ ?_ ?_ ?_
          | with_reducible first | exact BzZq.mk | refine Tw.ret ?_ | refine ImZq.i fun h => ?_ | refine IkZq.i fun hk => ?_)
    · obtain rfl : y = k := by omega
      rw [bm_congr fun i j _ hj => upto_all (g := g) hj]
      have hbl := bm_len (w := w) (h := y) (f := g)
      repeat' (first
        | refine GZp_i_y ?_ ?_ ?_ ?_ ?_ ?_ ?_ ?_
        | with_reducible first | exact BzZq.mk | refine Tw.ret ?_ | refine ImZq.i fun h => ?_ | refine IkZq.i fun hk => ?_)
      exact ⟨rfl, _, _, rfl⟩
  refine raw.wk fun v X h => ?_
  obtain ⟨rfl, a_, b_, rfl⟩ := h
  refine ⟨_, [some (.arr Ey (bm w k g))], TWk.fcanon env [some 1] (F' := [(0, .agg [.int .i64 w, .int .i64 k, .sla 1 0 0 (st w * k)])]) (by rfl) ?_, rfl, rfl⟩
  repeat' (first
    | refine GZ_i_y ?_ ?_ ?_ ?_ ?_ ?_ ?_ ?_
    | with_reducible first | exact BzZq.mk | refine Tw.ret ?_ | refine ImZq.i fun h => ?_ | refine IkZq.i fun hk => ?_)

theorem crop_c (w h x y a b : Nat) (f : Nat → Nat → Bool) (hw : 1 ≤ w ∧ w ≤ 1024) (hh : 1 ≤ h ∧ h ≤ 1024) (ha : 1 ≤ a) (hb : 1 ≤ b) (hx : x + a ≤ w) (hy : y + b ≤ h) :
    TC R Try.prog bitmap_Crop_f [.agg [.int .i64 w, .int .i64 h, .lst Ey (bm w h f)], .int .i64 x, .int .i64 y, .int .i64 a, .int .i64 b] []
      (fun v X => v = .tup [.agg [.int .i64 a, .int .i64 b, .lst Ey (bm a b fun i j => f (x + i) (y + j))], .int .i64 0] ∧ X = []) := by
  have ok := bm_ok (f := f) hw hh
  have cc := bCheck_y w h (bm w h f) ok
  have fr := fromCrop_c a b w h x y (bm w h f) (fun i j => f (x + i) (y + j)) (by unfold Due; omega) (by unfold Due; omega) (fun i j hi hj => by
    have ic := is_c w h (bm w h f) ((x : Int) + i) ((y : Int) + j) ok
    rw [show (x : Int) + i = ((x + i : Nat) : Int) by omega, show (y : Int) + j = ((y + j : Nat) : Int) by omega, px_bm (by omega) (by omega)] at ic
    have e1 : (x : Int) + (i : Int) = ((x + i : Nat) : Int) := by omega
    have e2 : (y : Int) + (j : Int) = ((y + j : Nat) : Int) := by omega
    refine tc0 env bitmap_Crop_1_s (by rfl) ?_
    dsimp only [bitmap_Crop_1_c]
    repeat' (first
      | ((with_reducible refine TOps.any ?_); refine TOps.callV env (by rfl) (by rfl) (by rfl) (ic) ?_)
      | refine GZy_i_y (And.intro e1 e2) ?_ ?_ ?_ ?_ ?_ ?_ ?_ ?_
      | with_reducible first | exact BzZq.mk | refine Tw.ret ?_ | refine ImZq.i fun h => ?_ | refine IkZq.i fun hk => ?_)
    exact ⟨rfl, rfl, rfl⟩)
  have hle : 0 + st a * b ≤ (bm a b fun i j => f (x + i) (y + j)).length := by rw [bm_len]; omega
  refine tc0 env bitmap_Crop_s (by rfl) ?_
  dsimp only [bitmap_Crop_c]
  repeat' (first
    | ((with_reducible refine TOps.any ?_); refine TOps.callE env (by rfl) (by rfl) (by rfl) ?_ (cc) (by rfl) ?_)
    | ((with_reducible refine TOps.any ?_); refine TOps.callE env (by rfl) (by rfl) (by rfl) ?_ (fr) (by rfl) ?_)
    | exact hle
    | ((with_reducible refine Tw.retI ?_); refine Tw.frz env 4 (by rfl) (by rfl) (by rfl) ?_ ?_ (Tw.ret ?_))
    | refine GZp_i_y ?_ ?_ ?_ ?_ ?_ ?_ ?_ ?_
    | with_reducible first | exact BzZq.mk | refine Tw.ret ?_ | refine ImZq.i fun h => ?_ | refine IkZq.i fun hk => ?_)
  rw [cut_all bm_len.symm]
  exact ⟨rfl, rfl, rfl⟩
end Go.Proofs.Ytcehapmkhlmgdaa
