/- The camera: Matrix. -/
import Derived.Test.YthkilkjngincpaaTmr3
import Derived.Test.YthkilkjngincpaaGo
namespace Go.Proofs.Ythkilkjngincpaa
open Go Go.Lite
set_option linter.unusedVariables false
set_option linter.unusedSimpArgs false
set_option maxRecDepth 100000
set_option maxHeartbeats 4000000
-- @simp rdi rdy rdo

structure BQ where
  u : Nat
  best : Option (Nat × List Int)
  least : Int
def bqR : Option (Nat × List Int) → TRow A
  | none => .cells [.int .i64 0, .int .i64 0, .nils]
  | some (n, D) => .cells [.int .i64 n, .int .i64 n, .lst Ey D]
theorem camMatrix_c (w k : Nat) (P : List Int) (a b S side fix tn : Nat) (dat : List Int) (ok : ImOk w k P) (hs : Side side) (hab : a + S ≤ 1024 ∧ b + S ≤ 1024) (hS : side ≤ S)
    (hbox : bxs (fun x y => px w k (bm w k (dark w P)) x y) w k k = (a, b, a + S, b + S))
    (big : ∀ n, side < n → n ≤ 32 → n % 2 = 0 → n ≤ S → 1 ≤ (mBest n (bm n n (smp w k (bm w k (dark w P)) a b S S n)) 4).2)
    (good : (mBest side (bm side side (smp w k (bm w k (dark w P)) a b S S side)) 4).2 = 0)
    (dec : TC R Try.prog matrix_Decode_f [.agg [.int .i64 side, .int .i64 side, .lst Ey (bm side side (smp w k (bm w k (dark w P)) a b S S side))]] [] (fun v X => v = .tup [.lst Ey dat, .int .i64 fix, .int .i64 tn, .int .i64 0] ∧ X = [])) :
    TC R Try.prog camera_Matrix_f [.agg [.int .i64 w, .int .i64 k, .lst Ey P]] [] (fun v X => v = .tup [.lst Ey dat, .int .i64 0] ∧ X = []) := by
  have cc := gCheck_y w k P ok
  have sp := split_c w k P ok
  have okD : BmOk w k (bm w k (dark w P)) := bm_ok ok.w1 ok.k1
  have bx := box_c w k _ okD
  rw [hbox] at bx
  generalize bm w k (dark w P) = D at *
  have hb := hs.bd
  have he := hs.ev
  have ea : ((a + S : Nat) : Int) = (a : Int) + S := by omega
  have eb : ((b + S : Nat) : Int) = (b : Int) + S := by omega
  dsimp only at bx
  rw [ea, eb] at bx
  refine tc0 env camera_Matrix_s (by rfl) ?_
  dsimp only [camera_Matrix_c]
  repeat' (first
    | ((with_reducible refine TOps.any ?_); refine TOps.callE env (by rfl) (by rfl) (by rfl) ?_ (cc) (by rfl) ?_)
    | ((with_reducible refine TOps.any ?_); refine TOps.callHE env [0] (sp) (by rfl) (by rfl) (by rfl) (by rfl) (by rfl) (by rfl) (by repeat' (first | exact trivial | refine ⟨rfl, ?_⟩)) ?_)
    | ((with_reducible refine TOps.any ?_); refine TOps.callHE env [1] (bx) (by rfl) (by rfl) (by rfl) (by rfl) (by rfl) (by rfl) (by repeat' (first | exact trivial | refine ⟨rfl, ?_⟩)) ?_)
    | refine GZp_i_y_o ?_ ?_ ?_ ?_ ?_ ?_ ?_ ?_
    | with_reducible first | exact BzZq.mk | refine Tw.ret ?_ | refine ImZq.i fun h => ?_ | refine IkZq.i fun hk => ?_)
  refine Tw.loopK [6, 7, 8, 9] (fun q : BQ => q.u ≤ 13 ∧ (0 ≤ q.least ∧ q.least ≤ 128) ∧ (side ≤ 32 - 2 * q.u → 1 ≤ q.least) ∧ (32 - 2 * q.u < side → q.least = 0 ∧ q.best = some (side, bm side side (smp w k D a b S S side)))) (fun q => 13 - q.u)
    (fun q => [(12, .int .i64 (32 - 2 * (q.u : Int))), (11, .int .i64 q.least), (5, .ptr 0 0), (10, .ptr 1 0)])
    (fun q => [some (.cells [.int .i64 w, .int .i64 k, .lst Ey D]), some (bqR q.best)])
    ⟨⟨0, none, 128⟩, ⟨by dsimp only; omega, by dsimp only; omega, fun _ => by dsimp only; omega, fun h => by dsimp only at h; omega⟩, TWk.fcanon env [some 1, some 2] (by rfl) ?_⟩ (fun q hq => ?_)
  · repeat' (first
      | refine GZ_i_y_o ?_ ?_ ?_ ?_ ?_ ?_ ?_ ?_
      | with_reducible first | exact BzZq.mk | refine Tw.ret ?_ | refine ImZq.i fun h => ?_ | refine IkZq.i fun hk => ?_)
  obtain ⟨u, best, least⟩ := q
  dsimp only at hq ⊢
  obtain ⟨i1, i2, i3, i4⟩ := hq
  rcases Nat.lt_or_ge u 13 with hu | hu
  · have en : ((32 - 2 * u : Nat) : Int) = 32 - 2 * (u : Int) := by omega
    have zn : 32 - 2 * ((u + 1 : Nat) : Int) = 32 - 2 * (u : Int) - 2 := by omega
    cases best with
    | none =>
      dsimp only [bqR]
      rcases Nat.lt_or_ge S (32 - 2 * u) with hS2 | hS2
      · repeat' (first
          | refine GZp_i_y_o ?_ ?_ ?_ ?_ ?_ ?_ ?_ ?_
          | with_reducible first | exact BzZq.mk | refine Tw.ret ?_ | refine ImZq.i fun h => ?_ | refine IkZq.i fun hk => ?_)
        all_goals refine ⟨⟨u + 1, none, least⟩, ⟨by dsimp only; omega, by dsimp only; omega, fun h => by dsimp only at h ⊢; exact i3 (by omega), fun h => by dsimp only at h ⊢; exact i4 (by omega)⟩, by dsimp only; omega, TWk.fcanon env [some 0, some 1] (by rfl) ?_⟩
        all_goals dsimp only [bqR]
        repeat' (first
          | exact zn
          | exact zn.symm
          | refine GZ_i_y_o ?_ ?_ ?_ ?_ ?_ ?_ ?_ ?_
          | with_reducible first | exact BzZq.mk | refine Tw.ret ?_ | refine ImZq.i fun h => ?_ | refine IkZq.i fun hk => ?_)
      · have sc := sample_c w k D a b S S (32 - 2 * u) okD hab (by omega)
        rw [en] at sc
        have okn : BmOk (32 - 2 * u) (32 - 2 * u) (bm (32 - 2 * u) (32 - 2 * u) (smp w k D a b S S (32 - 2 * u))) := bm_ok (by omega) (by omega)
        have mb := mBorder_c (32 - 2 * u) _ okn (by unfold Due; omega)
        rw [en] at mb
        obtain ⟨_, mb2, mb3⟩ := mBest_bd (32 - 2 * u) (bm (32 - 2 * u) (32 - 2 * u) (smp w k D a b S S (32 - 2 * u))) (by omega) 4 (by omega)
        have bigu := fun h1 : side < 32 - 2 * u => big (32 - 2 * u) h1 (by omega) (by omega) hS2
        have goodu : 32 - 2 * u = side → (mBest (32 - 2 * u) (bm (32 - 2 * u) (32 - 2 * u) (smp w k D a b S S (32 - 2 * u))) 4).2 = 0 := fun h => by rw [h]; exact good
        have eqD : 32 - 2 * u = side → bm (32 - 2 * u) (32 - 2 * u) (smp w k D a b S S (32 - 2 * u)) = bm side side (smp w k D a b S S side) := fun h => by rw [h]
        generalize mBest (32 - 2 * u) (bm (32 - 2 * u) (32 - 2 * u) (smp w k D a b S S (32 - 2 * u))) 4 = bb at *
        generalize bm (32 - 2 * u) (32 - 2 * u) (smp w k D a b S S (32 - 2 * u)) = D2 at *
        repeat' (first
          | ((with_reducible refine TOps.any ?_); refine TOps.callHE env [0] (sc) (by rfl) (by rfl) (by rfl) (by rfl) (by rfl) (by rfl) (by repeat' (first | exact trivial | refine ⟨rfl, ?_⟩)) ?_)
          | ((with_reducible refine TOps.any ?_); refine TOps.callHE env [2] (mb) (by rfl) (by rfl) (by rfl) (by rfl) (by rfl) (by rfl) (by repeat' (first | exact trivial | refine ⟨rfl, ?_⟩)) ?_)
          | refine GZp_i_y_o ?_ ?_ ?_ ?_ ?_ ?_ ?_ ?_
          | with_reducible first | exact BzZq.mk | refine Tw.ret ?_ | refine ImZq.i fun h => ?_ | refine IkZq.i fun hk => ?_)
        · refine ⟨⟨u + 1, some (32 - 2 * u, D2), bb.2⟩, ⟨by dsimp only; omega, by dsimp only; omega, fun h => ?_, fun h => ?_⟩, by dsimp only; omega, TWk.fcanon env [some 0, some 1] (by rfl) ?_⟩
          · dsimp only at h ⊢; exact bigu (by omega)
          · dsimp only at h ⊢
            by_cases e : 32 - 2 * u = side
            · exact ⟨goodu e, by rw [eqD e, e]⟩
            · have := i4 (by omega); omega
          · dsimp only [bqR]
            repeat' (first
              | exact zn
              | exact zn.symm
              | exact en
              | exact en.symm
              | refine GZ_i_y_o ?_ ?_ ?_ ?_ ?_ ?_ ?_ ?_
              | with_reducible first | exact BzZq.mk | refine Tw.ret ?_ | refine ImZq.i fun h => ?_ | refine IkZq.i fun hk => ?_)
        · refine ⟨⟨u + 1, none, least⟩, ⟨by dsimp only; omega, by dsimp only; omega, fun h => ?_, fun h => ?_⟩, by dsimp only; omega, TWk.fcanon env [some 0, some 1] (by rfl) ?_⟩
          · dsimp only at h ⊢; exact i3 (by omega)
          · dsimp only at h ⊢
            by_cases e : 32 - 2 * u = side
            · have := goodu e; have := i3 (by omega); omega
            · exact i4 (by omega)
          · dsimp only [bqR]
            repeat' (first
              | exact zn
              | exact zn.symm
              | refine GZ_i_y_o ?_ ?_ ?_ ?_ ?_ ?_ ?_ ?_
              | with_reducible first | exact BzZq.mk | refine Tw.ret ?_ | refine ImZq.i fun h => ?_ | refine IkZq.i fun hk => ?_)
    | some p =>
      obtain ⟨n0, D0⟩ := p
      dsimp only [bqR]
      rcases Nat.lt_or_ge S (32 - 2 * u) with hS2 | hS2
      · repeat' (first
          | refine GZp_i_y_o ?_ ?_ ?_ ?_ ?_ ?_ ?_ ?_
          | with_reducible first | exact BzZq.mk | refine Tw.ret ?_ | refine ImZq.i fun h => ?_ | refine IkZq.i fun hk => ?_)
        all_goals refine ⟨⟨u + 1, some (n0, D0), least⟩, ⟨by dsimp only; omega, by dsimp only; omega, fun h => by dsimp only at h ⊢; exact i3 (by omega), fun h => by dsimp only at h ⊢; exact i4 (by omega)⟩, by dsimp only; omega, TWk.fcanon env [some 0, some 1] (by rfl) ?_⟩
        all_goals dsimp only [bqR]
        repeat' (first
          | exact zn
          | exact zn.symm
          | refine GZ_i_y_o ?_ ?_ ?_ ?_ ?_ ?_ ?_ ?_
          | with_reducible first | exact BzZq.mk | refine Tw.ret ?_ | refine ImZq.i fun h => ?_ | refine IkZq.i fun hk => ?_)
      · have sc := sample_c w k D a b S S (32 - 2 * u) okD hab (by omega)
        rw [en] at sc
        have okn : BmOk (32 - 2 * u) (32 - 2 * u) (bm (32 - 2 * u) (32 - 2 * u) (smp w k D a b S S (32 - 2 * u))) := bm_ok (by omega) (by omega)
        have mb := mBorder_c (32 - 2 * u) _ okn (by unfold Due; omega)
        rw [en] at mb
        obtain ⟨_, mb2, mb3⟩ := mBest_bd (32 - 2 * u) (bm (32 - 2 * u) (32 - 2 * u) (smp w k D a b S S (32 - 2 * u))) (by omega) 4 (by omega)
        have bigu := fun h1 : side < 32 - 2 * u => big (32 - 2 * u) h1 (by omega) (by omega) hS2
        have goodu : 32 - 2 * u = side → (mBest (32 - 2 * u) (bm (32 - 2 * u) (32 - 2 * u) (smp w k D a b S S (32 - 2 * u))) 4).2 = 0 := fun h => by rw [h]; exact good
        have eqD : 32 - 2 * u = side → bm (32 - 2 * u) (32 - 2 * u) (smp w k D a b S S (32 - 2 * u)) = bm side side (smp w k D a b S S side) := fun h => by rw [h]
        generalize mBest (32 - 2 * u) (bm (32 - 2 * u) (32 - 2 * u) (smp w k D a b S S (32 - 2 * u))) 4 = bb at *
        generalize bm (32 - 2 * u) (32 - 2 * u) (smp w k D a b S S (32 - 2 * u)) = D2 at *
        repeat' (first
          | ((with_reducible refine TOps.any ?_); refine TOps.callHE env [0] (sc) (by rfl) (by rfl) (by rfl) (by rfl) (by rfl) (by rfl) (by repeat' (first | exact trivial | refine ⟨rfl, ?_⟩)) ?_)
          | ((with_reducible refine TOps.any ?_); refine TOps.callHE env [2] (mb) (by rfl) (by rfl) (by rfl) (by rfl) (by rfl) (by rfl) (by repeat' (first | exact trivial | refine ⟨rfl, ?_⟩)) ?_)
          | refine GZp_i_y_o ?_ ?_ ?_ ?_ ?_ ?_ ?_ ?_
          | with_reducible first | exact BzZq.mk | refine Tw.ret ?_ | refine ImZq.i fun h => ?_ | refine IkZq.i fun hk => ?_)
        · refine ⟨⟨u + 1, some (32 - 2 * u, D2), bb.2⟩, ⟨by dsimp only; omega, by dsimp only; omega, fun h => ?_, fun h => ?_⟩, by dsimp only; omega, TWk.fcanon env [some 0, some 1] (by rfl) ?_⟩
          · dsimp only at h ⊢; exact bigu (by omega)
          · dsimp only at h ⊢
            by_cases e : 32 - 2 * u = side
            · exact ⟨goodu e, by rw [eqD e, e]⟩
            · have := i4 (by omega); omega
          · dsimp only [bqR]
            repeat' (first
              | exact zn
              | exact zn.symm
              | exact en
              | exact en.symm
              | refine GZ_i_y_o ?_ ?_ ?_ ?_ ?_ ?_ ?_ ?_
              | with_reducible first | exact BzZq.mk | refine Tw.ret ?_ | refine ImZq.i fun h => ?_ | refine IkZq.i fun hk => ?_)
        · refine ⟨⟨u + 1, some (n0, D0), least⟩, ⟨by dsimp only; omega, by dsimp only; omega, fun h => ?_, fun h => ?_⟩, by dsimp only; omega, TWk.fcanon env [some 0, some 1] (by rfl) ?_⟩
          · dsimp only at h ⊢; exact i3 (by omega)
          · dsimp only at h ⊢
            by_cases e : 32 - 2 * u = side
            · have := goodu e; have := i3 (by omega); omega
            · exact i4 (by omega)
          · dsimp only [bqR]
            repeat' (first
              | exact zn
              | exact zn.symm
              | refine GZ_i_y_o ?_ ?_ ?_ ?_ ?_ ?_ ?_ ?_
              | with_reducible first | exact BzZq.mk | refine Tw.ret ?_ | refine ImZq.i fun h => ?_ | refine IkZq.i fun hk => ?_)
  · obtain rfl : u = 13 := by omega
    obtain ⟨j1, j2⟩ := i4 (by omega)
    subst j2
    dsimp only [bqR]
    repeat' (first
      | ((with_reducible refine TOps.any ?_); refine TOps.callV env (by rfl) (by rfl) (by rfl) (dec) ?_)
      | refine GZp_i_y_o ?_ ?_ ?_ ?_ ?_ ?_ ?_ ?_
      | with_reducible first | exact BzZq.mk | refine Tw.ret ?_ | refine ImZq.i fun h => ?_ | refine IkZq.i fun hk => ?_)
    exact ⟨rfl, rfl, rfl⟩
end Go.Proofs.Ythkilkjngincpaa
