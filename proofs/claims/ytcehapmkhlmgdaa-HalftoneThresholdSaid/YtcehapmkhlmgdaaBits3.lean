/- Bitmaps from plates. -/
import Derived.Test.YtcehapmkhlmgdaaBits2
import Derived.Test.YtcehapmkhlmgdaaXHalftoneThreshold0
import Derived.Test.YtcehapmkhlmgdaaGo
namespace Go.Proofs.Ytcehapmkhlmgdaa
open Go Go.Lite
set_option linter.unusedVariables false
set_option linter.unusedSimpArgs false
set_option maxRecDepth 100000
set_option maxHeartbeats 4000000
-- @simp rdi rdy

theorem plCheck_y (w k : Nat) (p : List Int) (hw : Due (1 ≤ w ∧ w ≤ 1024)) (hk : Due (1 ≤ k ∧ k ≤ 1024)) (hl : Due (p.length = w * k)) :
    TC R Try.prog devicelink_CheckPlate_f [.agg [.int .i64 w, .int .i64 k, .lst Ey p]] [] (fun v X => v = .int .i64 0 ∧ X = []) := by
  dsimp only [Due] at hw hk hl
  have hwk : w * k ≤ 1024 * 1024 := Nat.mul_le_mul hw.2 hk.2
  have ewk : (w : Int) * k = ((w * k : Nat) : Int) := by simp
  have f1 : -9223372036854775808 ≤ (w : Int) * k ∧ (w : Int) * k ≤ 9223372036854775807 := by rw [ewk]; omega
  refine tc0 env devicelink_CheckPlate_s (by rfl) ?_
  dsimp only [devicelink_CheckPlate_c]
  repeat' (first
    | exact f1
    | refine GZy_i_y (And.intro hl ewk) ?_ ?_ ?_ ?_ ?_ ?_ ?_ ?_
    | with_reducible first | exact BzZq.mk | refine Tw.ret ?_ | refine ImZq.i fun h => ?_ | refine IkZq.i fun hk => ?_)
  all_goals first | exact ⟨rfl, rfl, rfl⟩ | trace_state
theorem fromPlate1_c (w k : Nat) (p : List Int) (t : Int) (x y : Nat) (hw : 1 ≤ w ∧ w ≤ 1024) (hk : 1 ≤ k ∧ k ≤ 1024) (hl : p.length = w * k) (hp : ∀ i, i < p.length → 0 ≤ p.getD i 0 ∧ p.getD i 0 ≤ 255) (ht : 1 ≤ t ∧ t ≤ 255) (hx : x < w) (hy : y < k) :
    TC R Try.prog bitmap_FromPlate_1_f [.int .i64 x, .int .i64 y, .pel [.int .i64 w, .int .i64 k, .lst Ey p], .pel [.int .i64 t]] [] (fun v X => v = .bool (decide (t ≤ p.getD (y * w + x) 0)) ∧ X = []) := by
  have hlt : y * w + x < w * k := by
    have h2 : (y + 1) * w ≤ k * w := Nat.mul_le_mul_right _ hy
    rw [Nat.mul_comm w k]
    rw [Nat.add_mul] at h2
    omega
  have hwk : w * k ≤ 1024 * 1024 := Nat.mul_le_mul hw.2 hk.2
  have hc : (y : Int) * w + x = ((y * w + x : Nat) : Int) := by simp
  have hyw : (y : Int) * w = ((y * w : Nat) : Int) := by simp
  have f1 : -9223372036854775808 ≤ (y : Int) * w ∧ (y : Int) * w ≤ 9223372036854775807 := by rw [hyw]; omega
  have bb := hp (y * w + x) (by omega)
  refine tc0 env bitmap_FromPlate_1_s (by rfl) ?_
  dsimp only [bitmap_FromPlate_1_c]
  repeat' (first
    | exact f1
    | exact fun _ => f1
    | refine GZy_i_y (And.intro hc hl) ?_ ?_ ?_ ?_ ?_ ?_ ?_ ?_
    | with_reducible first | exact BzZq.mk | refine Tw.ret ?_ | refine ImZq.i fun h => ?_ | refine IkZq.i fun hk => ?_)
  refine ⟨rfl, congrArg TV.bool ?_, rfl⟩
  rw [hc]; rfl
theorem fromPl_c (w k : Nat) (a b : Int) (d : List Int) (t : Int) (g : Nat → Nat → Bool) (hw : Due (1 ≤ w ∧ w ≤ 1024)) (hk : Due (1 ≤ k ∧ k ≤ 1024))
    (hf : ∀ x y : Nat, x < w → y < k → TC R Try.prog bitmap_FromPlate_1_f [.int .i64 x, .int .i64 y, .pel [.int .i64 a, .int .i64 b, .lst Ey d], .pel [.int .i64 t]] [] (fun v X => v = .bool (g x y) ∧ X = [])) :
    TC R Try.prog bitmap_from_f [.int .i64 w, .int .i64 k, .fn bitmap_FromPlate_1_f [.pel [.int .i64 a, .int .i64 b, .lst Ey d], .pel [.int .i64 t]]] [] (fun v X => v = .agg [.int .i64 w, .int .i64 k, .sla 1 0 0 (st w * k)] ∧ X = [some (.arr Ey (bm w k g))]) := by
  dsimp only [Due] at hw hk
  have hlb := len_bd hw hk
  have sb := st_bd hw
  have bc := blank_c w k hw hk
  rw [bm_congr (g := upto g 0 0) fun x y _ _ => upto_none.symm] at bc
  have raw : TC R Try.prog bitmap_from_f [.int .i64 w, .int .i64 k, .fn bitmap_FromPlate_1_f [.pel [.int .i64 a, .int .i64 b, .lst Ey d], .pel [.int .i64 t]]] [] (fun v X => v = .agg [.int .i64 w, .int .i64 k, .sla 1 1 0 (st w * k)] ∧ ∃ a b, X = [a, some (.arr Ey (bm w k g)), b]) := by
    refine tc env bitmap_from_s (by rfl) ?_
    dsimp only [bitmap_from_c]
    repeat' (first
      | ((with_reducible refine TOps.any ?_); refine TOps.callV env (by rfl) (by rfl) (by rfl) (bc) ?_)
      | refine GZp_i_y ?_ ?_ ?_ ?_ ?_ ?_ ?_ ?_
      | with_reducible first | exact BzZq.mk | refine Tw.ret ?_ | refine ImZq.i fun h => ?_ | refine IkZq.i fun hk => ?_)
    refine Tw.loopK [0, 1, 2] (fun y : Nat => y ≤ k) (fun y => k - y) (fun y => [(13, .int .i64 k), (14, .int .i64 y), (6, .ptr 0 0), (7, .ptr 2 0)])
      (fun y => [some (.cells [.int .i64 0, .int .i64 0, .nils]), some (.arr Ey (bm w k (upto g 0 y))), some (.cells [.int .i64 w, .int .i64 k, .sla 1 1 0 (st w * k)])]) ⟨0, by omega, TWk.fcanon env [some 0, some 1, some 2] (by rfl) ?_⟩ (fun y hy => ?_)
    · repeat' (first
        | refine GZ_i_y ?_ ?_ ?_ ?_ ?_ ?_ ?_ ?_
        | with_reducible first | exact BzZq.mk | refine Tw.ret ?_ | refine ImZq.i fun h => ?_ | refine IkZq.i fun hk => ?_)
    rcases Nat.lt_or_ge y k with hy | hy
    · repeat' (first
        | refine GZp_i_y ?_ ?_ ?_ ?_ ?_ ?_ ?_ ?_
        | with_reducible first | exact BzZq.mk | refine Tw.ret ?_ | refine ImZq.i fun h => ?_ | refine IkZq.i fun hk => ?_)
      refine Tw.loopK [0, 1, 2, 13, 14, 6, 7, 8] (fun x : Nat => x ≤ w) (fun x => w - x) (fun x => [(17, .int .i64 w), (18, .int .i64 x)])
        (fun x => [some (.cells [.int .i64 0, .int .i64 0, .nils]), some (.arr Ey (bm w k (upto g x y))), some (.cells [.int .i64 w, .int .i64 k, .sla 1 1 0 (st w * k)])]) ⟨0, by omega, TWk.fcanon env [some 0, some 1, some 2] (by rfl) ?_⟩ (fun x hx => ?_)
      · repeat' (first
          | refine GZ_i_y ?_ ?_ ?_ ?_ ?_ ?_ ?_ ?_
          | with_reducible first | exact BzZq.mk | refine Tw.ret ?_ | refine ImZq.i fun h => ?_ | refine IkZq.i fun hk => ?_)
      rcases Nat.lt_or_ge x w with hx | hx
      · have fc := hf x y hx hy
        have hbd := bm_bd (w := w) (h := k) (f := upto g x y) (at8_lt hx hy)
        have hbl := bm_len (w := w) (h := k) (f := upto g x y)
        have hmk := bm_mark (f := upto g x y) hx hy
        have mc := mark_c w k (bm w k (upto g x y)) x y hw hk hbl hbd hx hy
        rw [hmk] at mc
        cases hg : g x y
        · rw [hg] at fc
          rw [bm_congr fun i j _ _ => upto_no hg i j] at *
          repeat' (first
            | ((with_reducible refine TOps.any ?_); refine TOps.callV env (by rfl) (by rfl) (by rfl) (fc) ?_)
            | refine GZp_i_y ?_ ?_ ?_ ?_ ?_ ?_ ?_ ?_
            | with_reducible first | exact BzZq.mk | refine Tw.ret ?_ | refine ImZq.i fun h => ?_ | refine IkZq.i fun hk => ?_)
          refine ⟨x + 1, by omega, by omega, TWk.fcanon env [some 0, some 1, some 2] (by rfl) ?_⟩
          repeat' (first
            | refine GZ_i_y ?_ ?_ ?_ ?_ ?_ ?_ ?_ ?_
            | with_reducible first | exact BzZq.mk | refine Tw.ret ?_ | refine ImZq.i fun h => ?_ | refine IkZq.i fun hk => ?_)
        · rw [hg] at fc
          rw [bm_congr (f := fun i j => upto g x y i j || (decide (i = x) && decide (j = y))) fun i j _ _ => upto_yes hg i j] at mc
          repeat' (first
            | ((with_reducible refine TOps.any ?_); refine TOps.callV env (by rfl) (by rfl) (by rfl) (fc) ?_)
            | ((with_reducible refine TOps.any ?_); refine TOps.callHE env [2, 1] (mc) (by rfl) (by rfl) (by rfl) (by rfl) (by rfl) (by rfl) (by repeat' (first | exact trivial | refine ⟨rfl, ?_⟩)) ?_)
            | refine GZp_i_y ?_ ?_ ?_ ?_ ?_ ?_ ?_ ?_
            | with_reducible first | exact BzZq.mk | refine Tw.ret ?_ | refine ImZq.i fun h => ?_ | refine IkZq.i fun hk => ?_)
          refine ⟨x + 1, by omega, by omega, TWk.fcanon env [some 0, some 1, some 2] (by rfl) ?_⟩
          repeat' (first
            | refine GZ_i_y ?_ ?_ ?_ ?_ ?_ ?_ ?_ ?_
            | with_reducible first | exact BzZq.mk | refine Tw.ret ?_ | refine ImZq.i fun h => ?_ | refine IkZq.i fun hk => ?_)
      · obtain rfl : x = w := by omega
        rw [bm_congr fun i j hi _ => upto_row (g := g) (y := y) hi]
        repeat' (first
          | refine GZp_i_y ?_ ?_ ?_ ?_ ?_ ?_ ?_ ?_
          | with_reducible first | exact BzZq.mk | refine Tw.ret ?_ | refine ImZq.i fun h => ?_ | refine IkZq.i fun hk => ?_)
        refine ⟨y + 1, by omega, by omega, TWk.fcanon env [some 0, some 1, some 2] (by rfl) ?_⟩
        repeat' (first
          | refine GZ_i_y ?_ ?_ ?_ ?_ ?_ ?_ ?_ ?_
          | with_reducible first | exact BzZq.mk | refine Tw.ret ?_ | refine ImZq.i fun h => ?_ | refine IkZq.i fun hk => ?_)
    · obtain rfl : y = k := by omega
      rw [bm_congr fun i j _ hj => upto_all (g := g) hj]
      have hbl := bm_len (w := w) (h := y) (f := g)
      repeat' (first
        | refine GZp_i_y ?_ ?_ ?_ ?_ ?_ ?_ ?_ ?_
        | with_reducible first | exact BzZq.mk | refine Tw.ret ?_ | refine ImZq.i fun h => ?_ | refine IkZq.i fun hk => ?_)
      exact ⟨rfl, _, _, rfl⟩
  refine raw.wk fun v X h => ?_
  obtain ⟨rfl, a_, b_, rfl⟩ := h
  refine ⟨_, [some (.arr Ey (bm w k g))], TWk.fcanon env [some 1] (F' := [(0, .agg [.int .i64 w, .int .i64 k, .sla 1 0 0 (st w * k)])]) (by rfl) ?_, rfl, rfl⟩
  repeat' (first
    | refine GZ_i_y ?_ ?_ ?_ ?_ ?_ ?_ ?_ ?_
    | with_reducible first | exact BzZq.mk | refine Tw.ret ?_ | refine ImZq.i fun h => ?_ | refine IkZq.i fun hk => ?_)
theorem fromPlate_c (w k : Nat) (p : List Int) (t : Int) (hw : Due (1 ≤ w ∧ w ≤ 1024)) (hk : Due (1 ≤ k ∧ k ≤ 1024)) (hl : Due (p.length = w * k)) (hp : Due (∀ i, i < p.length → 0 ≤ p.getD i 0 ∧ p.getD i 0 ≤ 255)) (ht : Due (1 ≤ t ∧ t ≤ 255)) :
    TC R Try.prog bitmap_FromPlate_f [.agg [.int .i64 w, .int .i64 k, .lst Ey p], .int .i64 t] [] (fun v X => v = .tup [.agg [.int .i64 w, .int .i64 k, .lst Ey (bm w k fun x y => decide (t ≤ p.getD (y * w + x) 0))], .int .i64 0] ∧ X = []) := by
  have pc := plCheck_y w k p hw hk hl
  have fc := fromPl_c w k w k p t (fun x y => decide (t ≤ p.getD (y * w + x) 0)) hw hk fun x y hx hy => fromPlate1_c w k p t x y hw hk hl hp ht hx hy
  dsimp only [Due] at hw hk hl hp ht
  refine tc0 env bitmap_FromPlate_s (by rfl) ?_
  dsimp only [bitmap_FromPlate_c]
  repeat' (first
    | ((with_reducible refine TOps.any ?_); refine TOps.callV env (by rfl) (by rfl) (by rfl) (pc) ?_)
    | refine GZp_i_y ?_ ?_ ?_ ?_ ?_ ?_ ?_ ?_
    | with_reducible first | exact BzZq.mk | refine Tw.ret ?_ | refine ImZq.i fun h => ?_ | refine IkZq.i fun hk => ?_)
  have hle : 0 + st w * k ≤ (bm w k fun x y => decide (t ≤ p.getD (y * w + x) 0)).length := by rw [bm_len]; omega
  have hbl := bm_len (w := w) (h := k) (f := fun x y => decide (t ≤ p.getD (y * w + x) 0))
  repeat' (first
    | ((with_reducible refine TOps.any ?_); refine TOps.callE env (by rfl) (by rfl) (by rfl) ?_ (fc) (by rfl) ?_)
    | exact hle
    | ((with_reducible refine Tw.retI ?_); refine Tw.frz env 3 (by rfl) (by rfl) (by rfl) ?_ ?_ (Tw.ret ?_))
    | refine GZp_i_y ?_ ?_ ?_ ?_ ?_ ?_ ?_ ?_
    | with_reducible first | exact BzZq.mk | refine Tw.ret ?_ | refine ImZq.i fun h => ?_ | refine IkZq.i fun hk => ?_)
  rw [cut_all hbl.symm]
  exact ⟨rfl, rfl, rfl⟩
end Go.Proofs.Ytcehapmkhlmgdaa
