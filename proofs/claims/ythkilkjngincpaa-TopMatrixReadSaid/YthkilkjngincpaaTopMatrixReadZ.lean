/- The law TopMatrixRead: a matrix code that is photographed is read. -/
import Derived.Test.YthkilkjngincpaaCamX
import Derived.Test.YthkilkjngincpaaTmr7
import Derived.Test.YthkilkjngincpaaXTopMatrixRead0
import Derived.Test.YthkilkjngincpaaGo
namespace Go.Proofs.Ythkilkjngincpaa
open Go Go.Lite
set_option linter.unusedVariables false
set_option linter.unusedSimpArgs false
set_option maxRecDepth 100000
set_option maxHeartbeats 4000000
-- @simp rdi rdy rdo

structure TQ where
  i : Nat
  left : Nat
  on : Nat → Bool
  wrg : Nat → Bool
theorem TopMatrixRead_law (l : List Int) (c : Int) (l3 : List Int) (vs vx vy vt vb vl vd : Int) (vn : List Int) (wl : l.length ≤ 9223372036854775807 ∧ ∀ y ∈ l, Wy y) (rc : rng .i64 c) (w3 : l3.length ≤ 9223372036854775807 ∧ ∀ y ∈ l3, Wi y)
    (rs : rng .i64 vs) (rx : rng .i64 vx) (ry : rng .i64 vy) (rt' : rng .i64 vt) (_ : rng .i64 vb) (rl : rng .i64 vl) (rd : rng .i64 vd) (wn : vn.length ≤ 9223372036854775807 ∧ ∀ y ∈ vn, Wi y) :
    TC R Try.prog T_TopMatrixRead_f [.lst Ey l, .int .i64 c, .lst Ei l3, .agg [.int .i64 vs, .int .i64 vx, .int .i64 vy, .int .i64 vt, .int .i64 vb, .int .i64 vl, .int .i64 vd, .lst Ei vn]] [] (fun v X => v = .bool true ∧ X = []) := by
  simp only [rng] at rc rs rx ry rt' rl rd
  obtain ⟨wl, vl0⟩ := wl
  obtain ⟨w3, v3⟩ := w3
  obtain ⟨wn, v4⟩ := wn
  have mc := sMod_c c 9 (by unfold Due; omega)
  obtain ⟨r, hr⟩ : ∃ r : Nat, c % 9 = r := ⟨(c % 9).toNat, by omega⟩
  rw [hr] at mc
  obtain ⟨s, hs⟩ : ∃ s : Nat, s = 8 + 2 * r := ⟨_, rfl⟩
  have es : (8 : Int) + 2 * (r : Int) = (s : Int) := by omega
  have Sd : Side s := ⟨by omega, by omega⟩
  have hb := Sd.bd
  have sf := Side.facts Sd
  have sc := size_c s Sd
  obtain ⟨m, hm⟩ : ∃ m : Nat, min (l.length : Int) ((mAll s : Int) - (mPar s : Int) - 1) = m := ⟨(min (l.length : Int) ((mAll s : Int) - (mPar s : Int) - 1)).toNat, by omega⟩
  have b1 : ∀ i, i < m → 0 ≤ l.getD i 0 ∧ l.getD i 0 ≤ 255 := fun i hi => by have := vl0 _ (getD_mem (d := 0) (show i < l.length by omega)); simpa [Wy, rng] using this
  have e1 := bits_list (l := l) (n := m) (by omega) b1
  generalize (fun k => BitVec.ofInt 8 (l.getD k 0)) = g at *
  have ec := mEncode_c s m g Sd (by unfold Due; omega)
  rw [← e1] at ec
  have hA : mAll s = (s - 2) * (s - 2) / 8 := rfl
  have hW := mWord_ok (m := m) (g := g) Sd
  have hW0 := fun i => mWord_plain (s := s) (m := m) (g := g) (i := i)
  generalize mWord s m g = W at *
  have mb0 := MB.start (W := W) Sd
  have ss : s * s ≤ 32 * 32 := Nat.mul_le_mul hb.2 hb.2
  have qp : quo ((mPar s : Nat) : Int) 2 = ((mPar s / 2 : Nat) : Int) := by rw [quo_nn (by omega)]; omega
  obtain ⟨n4, hn4⟩ : ∃ n4 : Nat, min (l3.length : Int) ((mPar s / 2 : Nat) : Int) = n4 := ⟨(min (l3.length : Int) ((mPar s / 2 : Nat) : Int)).toNat, by omega⟩
  have t4 : (l3.take n4).length = n4 := by rw [List.length_take]; omega
  have g1 : rng .i64 (quo ((mPar s : Nat) : Int) 2) := by rw [qp]; simp only [rng]; omega
  refine tc0 env T_TopMatrixRead_s (by rfl) ?_
  dsimp only [T_TopMatrixRead_c]
  repeat' (first
    | ((with_reducible refine TOps.any ?_); refine TOps.callV env (by rfl) (by rfl) (by rfl) (sCodes_c) ?_)
    | ((with_reducible refine TOps.any ?_); refine TOps.callV env (by rfl) (by rfl) (by rfl) (mc) ?_)
    | refine GZp_i_y_o ?_ ?_ ?_ ?_ ?_ ?_ ?_ ?_
    | with_reducible first | exact BzZq.mk | refine Tw.ret ?_ | refine ImZq.i fun h => ?_ | refine IkZq.i fun hk => ?_)
  rw [es]
  repeat' (first
    | ((with_reducible refine TOps.any ?_); refine TOps.callV env (by rfl) (by rfl) (by rfl) (sc) ?_)
    | refine GZy_i_y_o hm ?_ ?_ ?_ ?_ ?_ ?_ ?_ ?_
    | with_reducible first | exact BzZq.mk | refine Tw.ret ?_ | refine ImZq.i fun h => ?_ | refine IkZq.i fun hk => ?_)
  rw [hm]
  repeat' (first
    | ((with_reducible refine TOps.any ?_); refine TOps.callV env (by rfl) (by rfl) (by rfl) (ec) ?_)
    | exact g1
    | refine GZy_i_y_o qp ?_ ?_ ?_ ?_ ?_ ?_ ?_ ?_
    | with_reducible first | exact BzZq.mk | refine Tw.ret ?_ | refine ImZq.i fun h => ?_ | refine IkZq.i fun hk => ?_)
  rw [qp, hn4]
  obtain ⟨on0, hon0⟩ : ∃ on0 : Nat → Bool, on0 = fun i => mMod s W (i % s) (i / s) := ⟨_, rfl⟩
  rw [← hon0] at mb0
  have B0 : bm s s (mMod s W) = bm s s (fOn s on0) := bm_congr fun x y hx hy => by
    unfold fOn
    rw [hon0]
    dsimp only
    rw [Nat.mul_comm, Nat.mul_add_mod, Nat.mod_eq_of_lt hx, Nat.mul_add_div (by omega), Nat.div_eq_of_lt hx, Nat.add_zero]
  rw [B0]
  have A8 : 8 * mAll s ≤ (s - 2) * (s - 2) := by omega
  generalize hAA : mAll s = A at *
  generalize hPP : mPar s = P at *
  rw [Int.toNat_natCast, t4]
  refine Tw.loopK [0, 1, 9, 79, 80] (fun q : TQ => q.i ≤ n4 ∧ P / 2 ≤ q.left + q.i ∧ MB s W q.on q.wrg q.left) (fun q => n4 - q.i)
    (fun q => [(81, .int .i64 q.i), (7, .ptr 0 0), (13, .ptr 1 0)])
    (fun q => [some (.cells [.int .i64 vs, .int .i64 vx, .int .i64 vy, .int .i64 vt, .int .i64 vb, .int .i64 vl, .int .i64 vd, .lst Ei vn]), some (.cells [.int .i64 s, .int .i64 s, .lst Ey (bm s s (fOn s q.on))])])
    ⟨⟨0, P / 2, on0, fun _ => false⟩, ⟨Nat.zero_le _, by dsimp only; omega, mb0⟩, TWk.fcanon env [some 0, some 1] (by rfl) ?_⟩ (fun q hq => ?_)
  · repeat' (first
      | refine GZ_i_y_o ?_ ?_ ?_ ?_ ?_ ?_ ?_ ?_
      | with_reducible first | exact BzZq.mk | refine Tw.ret ?_ | refine ImZq.i fun h => ?_ | refine IkZq.i fun hk => ?_)
  obtain ⟨i, left, on, wrg⟩ := q
  dsimp only at hq ⊢
  obtain ⟨hi, hleft, mb⟩ := hq
  have okB : BmOk s s (bm s s (fOn s on)) := bm_ok (by omega) (by omega)
  rcases Nat.lt_or_ge i n4 with hi | hi
  · have gl : (l3.take n4).getD i 0 = l3.getD i 0 := by rw [List.getD_eq_getElem?_getD, List.getElem?_take, if_pos hi, ← List.getD_eq_getElem?_getD]
    have p1 : rng .i64 (l3.getD i 0) := by have := v3 _ (getD_mem (d := 0) (show i < l3.length by omega)); simpa [Wi] using this
    simp only [rng] at p1
    have m3 := sMod_c (l3.getD i 0) (8 * (A : Int)) (by unfold Due; omega)
    obtain ⟨k, hk⟩ : ∃ k : Nat, l3.getD i 0 % (8 * (A : Int)) = k := ⟨(l3.getD i 0 % (8 * (A : Int))).toNat, by have := Int.emod_nonneg (l3.getD i 0) (show 8 * (A : Int) ≠ 0 by omega); omega⟩
    have hk8 : k < 8 * A := by have := Int.emod_lt_of_pos (l3.getD i 0) (show (0 : Int) < 8 * (A : Int) by omega); omega
    rw [hk, ← gl] at m3
    have d1 := Nat.mod_lt k (show 0 < s - 2 by omega)
    have d2 : k / (s - 2) < s - 2 := Nat.div_lt_of_lt_mul (by omega)
    have r1 : rem (k : Int) ((s : Int) - 2) = ((k % (s - 2) : Nat) : Int) := by rw [show (s : Int) - 2 = ((s - 2 : Nat) : Int) by omega, rem_nn (by omega)]; simp
    have r2 : quo (k : Int) ((s : Int) - 2) = ((k / (s - 2) : Nat) : Int) := by rw [show (s : Int) - 2 = ((s - 2 : Nat) : Int) by omega, quo_nn (by omega)]; simp
    have fs : ∀ v x y, x < s → y < s → (if x = 1 + k % (s - 2) ∧ y = 1 + k / (s - 2) then v else fOn s on x y) = fOn s (upd on (inK s k) v) x y := fun v x y hx hy => (fOn_set hb.1 (by omega) hx hy).symm
    have fk : fOn s on (1 + k % (s - 2)) (1 + k / (s - 2)) = on (inK s k) := rfl
    generalize k % (s - 2) = u at *
    generalize k / (s - 2) = v at *
    have gx : ((1 + u : Nat) : Int) = 1 + rem (k : Int) ((s : Int) - 2) := by rw [r1]; omega
    have gy : ((1 + v : Nat) : Int) = 1 + quo (k : Int) ((s : Int) - 2) := by rw [r2]; omega
    have gc := get_c s s (bm s s (fOn s on)) (1 + u) (1 + v) okB (by unfold Due; omega) (by unfold Due; omega)
    rw [px_bm (by omega) (by omega), fk, gx, gy] at gc
    have stc := set_c s s (fOn s on) (1 + u) (1 + v) (!on (inK s k)) (by unfold Due; omega) (by unfold Due; omega) (by unfold Due; omega) (by unfold Due; omega)
    rw [bm_congr (fs (!on (inK s k))), gx, gy] at stc
    have f1 : rng .i64 (rem (k : Int) ((s : Int) - 2)) := by rw [r1]; simp only [rng]; omega
    have f2 : rng .i64 (quo (k : Int) ((s : Int) - 2)) := by rw [r2]; simp only [rng]; omega
    have f3 : -9223372036854775808 ≤ 1 + rem (k : Int) ((s : Int) - 2) ∧ 1 + rem (k : Int) ((s : Int) - 2) ≤ 9223372036854775807 := by rw [r1]; omega
    have f4 : -9223372036854775808 ≤ 1 + quo (k : Int) ((s : Int) - 2) ∧ 1 + quo (k : Int) ((s : Int) - 2) ≤ 9223372036854775807 := by rw [r2]; omega
    cases hw : wrg (k / 8) with
    | true =>
      have nx := mb.keep (v := !on (inK s k)) Sd (by rw [hAA]; exact hk8) hw
      repeat' (first
        | ((with_reducible refine TOps.any ?_); refine TOps.callV env (by rfl) (by rfl) (by rfl) (m3) ?_)
        | ((with_reducible refine TOps.any ?_); refine TOps.callV env (by rfl) (by rfl) (by rfl) (gc) ?_)
        | ((with_reducible refine TOps.any ?_); refine TOps.callV env (by rfl) (by rfl) (by rfl) (stc) ?_)
        | exact f1
        | exact f2
        | exact f3
        | exact f4
        | refine GZy_i_y_o t4 ?_ ?_ ?_ ?_ ?_ ?_ ?_ ?_
        | with_reducible first | exact BzZq.mk | refine Tw.ret ?_ | refine ImZq.i fun h => ?_ | refine IkZq.i fun hk => ?_)
      refine ⟨⟨i + 1, left, upd on (inK s k) (!on (inK s k)), wrg⟩, ⟨by dsimp only; omega, by dsimp only; omega, nx⟩, by dsimp only; omega, TWk.fcanon env [some 0, some 1] (by rfl) ?_⟩
      repeat' (first
        | refine GZ_i_y_o ?_ ?_ ?_ ?_ ?_ ?_ ?_ ?_
        | with_reducible first | exact BzZq.mk | refine Tw.ret ?_ | refine ImZq.i fun h => ?_ | refine IkZq.i fun hk => ?_)
    | false =>
      obtain ⟨lf, rfl⟩ : ∃ lf, left = lf + 1 := ⟨left - 1, by omega⟩
      have mb2 := mb.more Sd (by rw [hAA]; exact hk8) hw
      have nx := mb2.keep (v := !on (inK s k)) Sd (by rw [hAA]; exact hk8) upd_same
      repeat' (first
        | ((with_reducible refine TOps.any ?_); refine TOps.callV env (by rfl) (by rfl) (by rfl) (m3) ?_)
        | ((with_reducible refine TOps.any ?_); refine TOps.callV env (by rfl) (by rfl) (by rfl) (gc) ?_)
        | ((with_reducible refine TOps.any ?_); refine TOps.callV env (by rfl) (by rfl) (by rfl) (stc) ?_)
        | exact f1
        | exact f2
        | exact f3
        | exact f4
        | refine GZy_i_y_o t4 ?_ ?_ ?_ ?_ ?_ ?_ ?_ ?_
        | with_reducible first | exact BzZq.mk | refine Tw.ret ?_ | refine ImZq.i fun h => ?_ | refine IkZq.i fun hk => ?_)
      refine ⟨⟨i + 1, lf, upd on (inK s k) (!on (inK s k)), upd wrg (k / 8) true⟩, ⟨by dsimp only; omega, by dsimp only; omega, nx⟩, by dsimp only; omega, TWk.fcanon env [some 0, some 1] (by rfl) ?_⟩
      repeat' (first
        | refine GZ_i_y_o ?_ ?_ ?_ ?_ ?_ ?_ ?_ ?_
        | with_reducible first | exact BzZq.mk | refine Tw.ret ?_ | refine ImZq.i fun h => ?_ | refine IkZq.i fun hk => ?_)
  obtain rfl : n4 = i := by omega
  have w0 := sMod_c vs 5 (by unfold Due; omega)
  have w1 := sMod_c vx 33 (by unfold Due; omega)
  have w2 := sMod_c vy 33 (by unfold Due; omega)
  have w3' := sMod_c vt 4 (by unfold Due; omega)
  have w6 := sMod_c vd 100 (by unfold Due; omega)
  have w5 := sMod_c vl 90 (by unfold Due; omega)
  repeat' (first
    | ((with_reducible refine TDr.any ?_); refine TDr.callE env (by first | rfl | assumption) (by rfl) (by rfl) ?_ (w0) (by rfl) (by rfl) ?_)
    | ((with_reducible refine TDr.any ?_); refine TDr.callE env (by first | rfl | assumption) (by rfl) (by rfl) ?_ (w1) (by rfl) (by rfl) ?_)
    | ((with_reducible refine TDr.any ?_); refine TDr.callE env (by first | rfl | assumption) (by rfl) (by rfl) ?_ (w2) (by rfl) (by rfl) ?_)
    | ((with_reducible refine TDr.any ?_); refine TDr.callE env (by first | rfl | assumption) (by rfl) (by rfl) ?_ (w3') (by rfl) (by rfl) ?_)
    | ((with_reducible refine TOps.any ?_); refine TOps.callV env (by rfl) (by rfl) (by rfl) (w6) ?_)
    | ((with_reducible refine TDr.any ?_); refine TDr.callE env (by first | rfl | assumption) (by rfl) (by rfl) ?_ (w5) (by rfl) (by rfl) ?_)
    | refine GZp_i_y_o ?_ ?_ ?_ ?_ ?_ ?_ ?_ ?_
    | with_reducible first | exact BzZq.mk | refine Tw.ret ?_ | refine ImZq.i fun h => ?_ | refine IkZq.i fun hk => ?_)
  obtain ⟨z, hz⟩ : ∃ z : Nat, 2 + vs % 5 = z := ⟨(2 + vs % 5).toNat, by omega⟩
  obtain ⟨X, hX⟩ : ∃ X : Nat, vx % 33 = X := ⟨(vx % 33).toNat, by omega⟩
  obtain ⟨Y, hY⟩ : ∃ Y : Nat, vy % 33 = Y := ⟨(vy % 33).toNat, by omega⟩
  obtain ⟨t, ht⟩ : ∃ t : Nat, vt % 4 = t := ⟨(vt % 4).toNat, by omega⟩
  obtain ⟨dk, hdk⟩ : ∃ dk : Int, vd % 100 = dk := ⟨_, rfl⟩
  obtain ⟨lt, hlt'⟩ : ∃ lt : Int, dk + 60 + vl % 90 = lt := ⟨_, rfl⟩
  have z1 : 2 ≤ z ∧ z ≤ 6 := by omega
  have x1 : X ≤ 32 := by omega
  have y1 : Y ≤ 32 := by omega
  have t1 : t < 4 := by omega
  have dk1 : 0 ≤ dk ∧ dk ≤ 99 := by omega
  have lt1 : dk + 60 ≤ lt ∧ lt ≤ 248 := by omega
  obtain ⟨n5, hn5⟩ : ∃ n5 : Nat, min (vn.length : Int) 20 = n5 := ⟨(min (vn.length : Int) 20).toNat, by omega⟩
  have t5 : (vn.take n5).length = n5 := by rw [List.length_take]; omega
  rw [hz, hX, hY, ht, hdk, hlt', hn5, Int.toNat_natCast, t5]
  refine Tw.loopK [0, 1, 158, 159] (fun i : Nat => i ≤ n5) (fun i => n5 - i)
    (fun i => [(160, .int .i64 i), (7, .ptr 0 0), (13, .ptr 1 0), (21, .sla 1 2 0 i)])
    (fun i => [some (.cells [.int .i64 z, .int .i64 X, .int .i64 Y, .int .i64 t, .int .i64 0, .int .i64 lt, .int .i64 dk, .lst Ei vn]), some (.cells [.int .i64 s, .int .i64 s, .lst Ey (bm s s (fOn s on))]), some (.arr Ei (tab i fun j => vn.getD j 0 % 29 - 14))])
    ⟨0, Nat.zero_le _, TWk.fcanon env [some 0, some 1, none] (by rfl) ?_⟩ (fun i hi => ?_)
  · repeat' (first
      | refine GZ_i_y_o ?_ ?_ ?_ ?_ ?_ ?_ ?_ ?_
      | with_reducible first | exact BzZq.mk | refine Tw.ret ?_ | refine ImZq.i fun h => ?_ | refine IkZq.i fun hk => ?_)
    all_goals rfl
  rcases Nat.lt_or_ge i n5 with hi | hi
  · have gl : (vn.take n5).getD i 0 = vn.getD i 0 := by rw [List.getD_eq_getElem?_getD, List.getElem?_take, if_pos hi, ← List.getD_eq_getElem?_getD]
    have p1 : rng .i64 (vn.getD i 0) := by have := v4 _ (getD_mem (d := 0) (show i < vn.length by omega)); simpa [Wi] using this
    simp only [rng] at p1
    have m3 := sMod_c (vn.getD i 0) 29 (by unfold Due; omega)
    rw [← gl] at m3
    have ap : cut (tab i fun j => vn.getD j 0 % 29 - 14) 0 i ++ cut [(vn.take n5).getD i 0 % 29 - 14] 0 1 = tab (i + 1) fun j => vn.getD j 0 % 29 - 14 := by
      rw [show cut (tab i fun j => vn.getD j 0 % 29 - 14) 0 i = tab i fun j => vn.getD j 0 % 29 - 14 from cut_tab, cut_one, gl, tab_succ]
    have tl : (tab i fun j => vn.getD j 0 % 29 - 14).length = i := tab_len
    repeat' (first
      | ((with_reducible refine TOps.any ?_); refine TOps.callV env (by rfl) (by rfl) (by rfl) (m3) ?_)
      | refine GZy_i_y_o (And.intro t5 tl) ?_ ?_ ?_ ?_ ?_ ?_ ?_ ?_
      | with_reducible first | exact BzZq.mk | refine Tw.ret ?_ | refine ImZq.i fun h => ?_ | refine IkZq.i fun hk => ?_)
    refine ⟨i + 1, by omega, by omega, TWk.fcanon env [some 0, some 1, some 4] (by rfl) ?_⟩
    repeat' (first
      | exact ap
      | exact ap.symm
      | refine GZ_i_y_o ?_ ?_ ?_ ?_ ?_ ?_ ?_ ?_
      | with_reducible first | exact BzZq.mk | refine Tw.ret ?_ | refine ImZq.i fun h => ?_ | refine IkZq.i fun hk => ?_)
  obtain rfl : n5 = i := by omega
  obtain ⟨N, hN⟩ : ∃ N, N = tab n5 fun j => vn.getD j 0 % 29 - 14 := ⟨_, rfl⟩
  have Nl : N.length = n5 := by rw [hN]; exact tab_len
  have Nb : ∀ i, i < N.length → -14 ≤ N.getD i 0 ∧ N.getD i 0 ≤ 14 := fun i hi => by
    rw [hN, tab_get (by omega)]
    omega
  rw [← hN]
  -- the image
  have mo := MO.start (s := s) (on := on) mb.bord
  obtain ⟨bt1, bt2, bt3⟩ := back_turn Sd mo (Nat.zero_le _) t1
  have fw := few_wrong Sd mb mo
  have wr0 : mWr s (fOn s on) s = 0 := by
    have h1 := mo.cnt
    have h2 : cntB (fun i => mBad s (fOn s on) (i % s) (i / s)) (s * s) = 0 := by omega
    rw [mWr_cnt (by omega), h2]; rfl
  have wr1 : mWr s (mPix s (trn (s, s, bm s s (fOn s on)) t).2.2 ((4 - t) % 4)) s = 0 := by rw [mWr_congr bt3]; exact wr0
  obtain ⟨sq1, sq2⟩ := trn_sq s (bm s s (fOn s on)) t
  have okT : BmOk s s (trn (s, s, bm s s (fOn s on)) t).2.2 := by have := trn_ok (t := (s, s, bm s s (fOn s on))) okB t; unfold Ok3 at this; rw [sq1, sq2] at this; exact this
  have pT : ∀ x y, x < s → y < s → px s s (trn (s, s, bm s s (fOn s on)) t).2.2 (x : Int) (y : Int) = rotN s (fOn s on) t x y := fun x y hx hy => by
    rw [trn_rot (by omega) t t1 hx hy]
    exact rotN_congr (fun x y hx hy => px_bm hx hy) t x y hx hy
  have et : trn (s, s, bm s s (fOn s on)) t = (s, s, (trn (s, s, bm s s (fOn s on)) t).2.2) := Prod.ext sq1 (Prod.ext sq2 rfl)
  generalize hT : (trn (s, s, bm s s (fOn s on)) t).2.2 = T at *
  have fl := (border_full (f := fOn s on) hb.1 (fun x y hx hy hB => by
    have hlt2 : y * s + x < s * s := by
      have : (y + 1) * s ≤ s * s := Nat.mul_le_mul_right _ hy
      rw [Nat.add_mul, Nat.one_mul] at this; omega
    have e1 : (y * s + x) % s = x := by rw [Nat.mul_comm, Nat.mul_add_mod]; exact Nat.mod_eq_of_lt hx
    have e2 : (y * s + x) / s = y := by rw [Nat.mul_comm, Nat.mul_add_div (by omega), Nat.div_eq_of_lt hx, Nat.add_zero]
    have := mb.bord (y * s + x) hlt2 (by rw [e1, e2]; exact hB)
    rw [e1, e2] at this
    exact this)).rot t
  generalize hf : rotN s (fOn s on) t = f at *
  have sz : s * z ≤ 192 := by
    have : s * z ≤ 32 * 6 := Nat.mul_le_mul hb.2 z1.2
    omega
  have vo : ViOk (z : Int) X Y t ((0 : Nat) : Int) lt dk N := ⟨by omega, by omega, by omega, by omega, by omega, by omega, by omega, by omega, by omega, fun i hi => by have := Nb i hi; omega⟩
  have cap := capture_c s s (bm s s (fOn s on)) z X Y t 0 lt dk N okB vo (by rw [et]; show s * z + 32 ≤ 1024; omega) (by rw [et]; show s * z + 32 ≤ 1024; omega)
  rw [et] at cap
  have ex : ∃ a b, a < s ∧ b < s ∧ f a b = true := by obtain ⟨x, hx, h⟩ := fl.row 0 (by omega); exact ⟨x, 0, hx, by omega, h⟩
  have imo : ImOk (s * z + 32) (s * z + 32) (capP (s, s, T) z X Y 0 lt dk N) := capP_im (t := (s, s, T)) (s := z) (by show s * z + 32 ≤ 1024; omega) (by show s * z + 32 ≤ 1024; omega) (by omega) (by omega)
  have dj := fun x y (hx : x < s * z + 32) (hy : y < s * z + 32) => dark_j (n := s) (s := z) (X := X) (Y := Y) (l := lt) (d := dk) (D := T) (N := N) (f := f) (by omega) (by omega) x1 y1 pT dk1.1 lt1.1 (by omega) Nb ex hx hy
  have cw : camW (s, s, T) z = s * z + 32 := rfl
  have ch : camH (s, s, T) z = s * z + 32 := rfl
  rw [cw, ch] at cap
  generalize capP (s, s, T) z X Y 0 lt dk N = P2 at *
  obtain ⟨w, hw⟩ : ∃ w, w = s * z + 32 := ⟨_, rfl⟩
  rw [← hw] at cap imo dj
  have pD : ∀ x y, x < w → y < w → px w w (bm w w (dark w P2)) (x : Int) (y : Int) = cJ s z X Y f x y := fun x y hx hy => by rw [px_bm hx hy]; exact dj x y hx hy
  have hbx : bxs (fun x y => px w w (bm w w (dark w P2)) x y) w w w = (X, Y, X + s * z, Y + s * z) := by
    rw [bxs_congr (g := cJ s z X Y f) (fun x y hx hy => pD x y hx hy) w (Nat.le_refl _)]
    exact bxs_j (by omega) (by omega) x1 y1 hw fl
  have sm : ∀ n, bm n n (smp w w (bm w w (dark w P2)) X Y (s * z) (s * z) n) = bm n n fun x y => f (mid s n x) (mid s n y) := fun n => bm_congr fun x y hx hy => smp_is (by omega) (by omega) (by omega) pD hx hy
  have sm1 : bm s s (smp w w (bm w w (dark w P2)) X Y (s * z) (s * z) s) = T := by
    rw [sm, ok_is okT]
    exact bm_congr fun x y hx hy => by rw [mid_same (by omega), mid_same (by omega), pT x y hx hy]
  have rdw : (bm (8 * mAll s) 1 fun i _ => mIn s (mPix s T (mBest s T 4).1) i) = btab (mAll s) (mRd s on) := by
    rw [← mRd_tab, bt1]
    refine bm_congr fun x y hx hy => ?_
    have hx2 : x < (s - 2) * (s - 2) := by omega
    have d1 := Nat.mod_lt x (show 0 < s - 2 by omega)
    have d2 : x / (s - 2) < s - 2 := Nat.div_lt_of_lt_mul hx2
    unfold mIn
    generalize x % (s - 2) = u at *
    generalize x / (s - 2) = v at *
    exact bt3 _ _ (by omega) (by omega)
  rw [hAA] at rdw fw
  have wrc := rsDecN_c A P 400 (mRd s on) W (fun _ => 0) (by unfold Due; omega) hW (fun i hi => absurd hi (by omega)) (fun i j hi => absurd hi (by omega)) (by
    unfold Due
    have : (bad A (fun j => mRd s on j ^^^ W j) (erK (fun _ => 0) 0)).length = cntB (fun j => decide (mRd s on j ^^^ W j ≠ 0#8)) A := by
      show cntB (fun j => decide (mRd s on j ^^^ W j ≠ 0#8) && !erK (fun _ => 0) 0 j) A = _
      exact cntB_congr fun j _ => by simp [erK]
    rw [this]; omega)
  rw [← rdw] at wrc
  have wf : (btab A W).getD 0 0 = m := by
    rw [btab_get (by omega), hW0 0 (by omega)]
    unfold mPlain by8
    rw [if_pos rfl, BitVec.toNat_ofNat]; omega
  have dcd := mDecode_c s T (btab A W) (cntB (fun j => decide (mRd s on j ^^^ W j ≠ 0#8)) A) m Sd okT (by unfold Due; rw [bt1]; exact bt2) (by rw [hAA, hPP]; exact wrc) (by unfold Due; rw [hAA]; exact btab_len) wf (by unfold Due; omega) (fun i h1 h2 => by
    rw [btab_get (by omega), hW0 i (by omega)]
    unfold mPlain
    rw [if_neg (by omega), if_neg (by omega)]; rfl)
  rw [← sm1] at dcd
  have cm := camMatrix_c w w P2 X Y (s * z) s _ _ (cut (btab A W) 1 m) imo Sd (by omega) (by have : s * 1 ≤ s * z := Nat.mul_le_mul_left _ (by omega); omega) hbx (fun n h1 h2 h3 h4 => by rw [sm]; exact smp_worse (by omega) (by omega) h1) (by rw [sm1, bt1]; exact wr1) dcd
  have sl : cut (btab A W) 1 m = List.take (m : Int).toNat l := by
    rw [Int.toNat_natCast, e1]
    refine is_tab 0 (by show ((List.drop 1 (btab A W)).take m).length = m; rw [List.length_take, List.length_drop, btab_len]; omega) fun i hi => ?_
    show ((List.drop 1 (btab A W)).take m).getD i 0 = _
    rw [getD_sub hi, btab_get (by omega), hW0 _ (by omega)]
    unfold mPlain
    rw [if_neg (by omega), if_pos (by omega), show 1 + i - 1 = i by omega]
  rw [sl] at cm
  have cN : cut N 0 n5 = N := cut_all Nl.symm
  repeat' (first
    | refine GZp_i_y_o ?_ ?_ ?_ ?_ ?_ ?_ ?_ ?_
    | with_reducible first | exact BzZq.mk | refine Tw.ret ?_ | refine ImZq.i fun h => ?_ | refine IkZq.i fun hk => ?_)
  refine TOps.frz env 2 (by rfl) (by rfl) (by rfl) ?_ ?_ ?_
  · repeat' (first
      | refine GZx_i_y_o Nl ?_ ?_ ?_ ?_ ?_ ?_ ?_ ?_
      | with_reducible first | exact BzZq.mk | refine Tw.ret ?_ | refine ImZq.i fun h => ?_ | refine IkZq.i fun hk => ?_)
  · repeat' (first
      | refine GZx_i_y_o Nl ?_ ?_ ?_ ?_ ?_ ?_ ?_ ?_
      | with_reducible first | exact BzZq.mk | refine Tw.ret ?_ | refine ImZq.i fun h => ?_ | refine IkZq.i fun hk => ?_)
  rw [cN]
  repeat' (first
    | ((with_reducible refine TOps.any ?_); refine TOps.callV env (by rfl) (by rfl) (by rfl) (cap) ?_)
    | ((with_reducible refine TOps.any ?_); refine TOps.callV env (by rfl) (by rfl) (by rfl) (cm) ?_)
    | refine GZp_i_y_o ?_ ?_ ?_ ?_ ?_ ?_ ?_ ?_
    | with_reducible first | exact BzZq.mk | refine Tw.ret ?_ | refine ImZq.i fun h => ?_ | refine IkZq.i fun hk => ?_)
  exact ⟨rfl, congrArg TV.bool (by simp), rfl⟩
end Go.Proofs.Ythkilkjngincpaa
