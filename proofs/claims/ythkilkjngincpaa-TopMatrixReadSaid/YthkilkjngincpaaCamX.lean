/- Merged: Tmr1 Tmr2 Turns Cam1 CamX. -/
import Derived.Test.YthkilkjngincpaaRsM
import Derived.Test.YthkilkjngincpaaMtx2
import Derived.Test.YthkilkjngincpaaXTopMatrixRead0
import Derived.Test.YthkilkjngincpaaGo
import Derived.Test.YthkilkjngincpaaLin2
namespace Go.Proofs.Ythkilkjngincpaa
open Go Go.Lite
set_option linter.unusedVariables false
set_option linter.unusedSimpArgs false
set_option maxRecDepth 100000
set_option maxHeartbeats 4000000
-- @simp rdi rdy rdo

theorem sMod_c (n m : Int) (h : Due (1 ≤ m ∧ m ≤ 1000000 ∧ -9223372036854775808 ≤ n ∧ n ≤ 9223372036854775807)) : TC R Try.prog T_sMod_f [.int .i64 n, .int .i64 m] [] (fun v X => v = .int .i64 (n % m) ∧ X = []) := by
  dsimp only [Due] at h
  have lo : -m < Int.tmod n m := by
    rcases Int.le_total 0 n with h0 | h0
    · have := Int.tmod_nonneg m h0; omega
    · have h2 := Int.tmod_lt_of_pos (-n) (show 0 < m by omega)
      rw [Int.neg_tmod] at h2; omega
  have hi : Int.tmod n m < m := Int.tmod_lt_of_pos n (by omega)
  have er : rem n m = Int.tmod n m := rfl
  have e1 : rem (rem n m + m) m = n % m := by
    obtain ⟨a, ha⟩ : ∃ a : Nat, Int.tmod n m + m = a := ⟨(Int.tmod n m + m).toNat, by omega⟩
    obtain ⟨b, hb⟩ : ∃ b : Nat, m = b := ⟨m.toNat, by omega⟩
    have e2 : n % m = (Int.tmod n m + m) % m := by
      have := Int.mul_tdiv_add_tmod n m
      rw [Int.add_emod_right]
      conv => lhs; rw [← this]
      rw [Int.mul_add_emod_self_left]
    rw [e2, er, ha, hb, rem_nn (by omega)]
  refine tc0 env T_sMod_s (by rfl) ?_
  dsimp only [T_sMod_c]
  have d1 : -9223372036854775808 ≤ rem n m + m ∧ rem n m + m ≤ 9223372036854775807 := by rw [er]; omega
  have d2 : rng .i64 (rem n m) := by rw [er]; simp only [rng]; omega
  have d3 : rng .i64 (rem (rem n m + m) m) := by rw [e1]; have := Int.emod_nonneg n (show m ≠ 0 by omega); have := Int.emod_lt_of_pos n (show 0 < m by omega); simp only [rng]; omega
  repeat' (first
    | exact d1
    | exact d2
    | exact d3
    | refine GZp_i_y_o ?_ ?_ ?_ ?_ ?_ ?_ ?_ ?_
    | with_reducible first | exact BzZq.mk | refine Tw.ret ?_ | refine ImZq.i fun h => ?_ | refine IkZq.i fun hk => ?_)
  rw [e1]
  exact ⟨rfl, rfl, rfl⟩
theorem sCodes_c : TC R Try.prog T_sCodes_f [] [] (fun v X => v = .bool true ∧ X = []) := by
  have ec := lencode_c z2 z2_dig (by decide)
  rw [z2_code] at ec
  have dc := read_ok z2 z2_dig (by decide) z2C 1 0 (by omega) (fun i hi k hk => by
    rw [← z2_code, code_get hi hk]; split <;> omega) (by rw [← z2_code]; exact code_len) (fun i hi => by
    have := code_bd z2_dig i (by rw [z2_code]; exact hi)
    rw [z2_code] at this; omega)
  have l25 : z2C.length = 25 := rfl
  refine tc0 env T_sCodes_s (by rfl) ?_
  dsimp only [T_sCodes_c]
  repeat' (first
    | ((with_reducible refine TOps.any ?_); refine TOps.callV env (by rfl) (by rfl) (by rfl) (ec) ?_)
    | refine GZp_i_y_o ?_ ?_ ?_ ?_ ?_ ?_ ?_ ?_
    | with_reducible first | exact BzZq.mk | refine Tw.ret ?_ | refine ImZq.i fun h => ?_ | refine IkZq.i fun hk => ?_)
  refine TOps.frz env 0 (by rfl) (by rfl) (by rfl) ?_ ?_ ?_
  · repeat' (first
      | refine GZx_i_y_o l25 ?_ ?_ ?_ ?_ ?_ ?_ ?_ ?_
      | with_reducible first | exact BzZq.mk | refine Tw.ret ?_ | refine ImZq.i fun h => ?_ | refine IkZq.i fun hk => ?_)
  · repeat' (first
      | refine GZx_i_y_o l25 ?_ ?_ ?_ ?_ ?_ ?_ ?_ ?_
      | with_reducible first | exact BzZq.mk | refine Tw.ret ?_ | refine ImZq.i fun h => ?_ | refine IkZq.i fun hk => ?_)
  rw [cut_all (xs := z2C) rfl]
  have dc2 : TC R Try.prog linear_Decode_f [.lst Ei z2C] [] (fun v X => v = .tup [.str ⟨([48, 48] : List UInt8).toArray⟩, .int .i64 0] ∧ X = []) := dc
  have q25 : (z2C.length : Int) = 25 := rfl
  repeat' (first
    | ((with_reducible refine TOps.any ?_); refine TOps.callV env (by rfl) (by rfl) (by rfl) (dc2) ?_)
    | refine GZy_i_y_o l25 ?_ ?_ ?_ ?_ ?_ ?_ ?_ ?_
    | with_reducible first | exact BzZq.mk | refine Tw.ret ?_ | refine ImZq.i fun h => ?_ | refine IkZq.i fun hk => ?_)
  exact ⟨rfl, congrArg TV.bool (by simp [l25]), rfl⟩
theorem get_c (w k : Nat) (D : List Int) (x y : Nat) (ok : Due (BmOk w k D)) (hx : Due (x < w)) (hy : Due (y < k)) :
    TC R Try.prog bitmap_Get_f [.agg [.int .i64 w, .int .i64 k, .lst Ey D], .int .i64 x, .int .i64 y] [] (fun v X => v = .tup [.bool (px w k D x y), .int .i64 0] ∧ X = []) := by
  dsimp only [Due] at ok hx hy
  have cc := bCheck_y w k D ok
  have ic := is_c w k D x y ok
  have hw := ok.w1
  have hk := ok.h1
  refine tc0 env bitmap_Get_s (by rfl) ?_
  dsimp only [bitmap_Get_c]
  repeat' (first
    | ((with_reducible refine TOps.any ?_); refine TOps.callE env (by rfl) (by rfl) (by rfl) ?_ (cc) (by rfl) ?_)
    | ((with_reducible refine TOps.any ?_); refine TOps.callE env (by rfl) (by rfl) (by rfl) ?_ (ic) (by rfl) ?_)
    | refine GZp_i_y_o ?_ ?_ ?_ ?_ ?_ ?_ ?_ ?_
    | with_reducible first | exact BzZq.mk | refine Tw.ret ?_ | refine ImZq.i fun h => ?_ | refine IkZq.i fun hk => ?_)
  all_goals exact ⟨rfl, rfl, rfl⟩
theorem bandn_nat {p q : Int} (hp : 0 ≤ p ∧ p ≤ 255) (hq : 0 ≤ q ∧ q ≤ 255) : 0 ≤ bandn .u8 p q ∧ bandn .u8 p q ≤ 255 ∧ ∀ b, b < 8 → bt (bandn .u8 p q) b = (bt p b && !bt q b) := by
  obtain ⟨m, rfl⟩ : ∃ m : Nat, p = m := ⟨p.toNat, by omega⟩
  obtain ⟨n, rfl⟩ : ∃ n : Nat, q = n := ⟨q.toNat, by omega⟩
  have e : bandn .u8 (m : Int) (n : Int) = ((BitVec.ofNat 8 m &&& ~~~ BitVec.ofNat 8 n).toNat : Int) := by
    show IntKind.wrap .u8 ((BitVec.ofInt 8 (m : Int) &&& ~~~ BitVec.ofInt 8 (n : Int)).toNat : Int) = _
    rw [BitVec.ofInt_natCast, BitVec.ofInt_natCast]
    have := (BitVec.ofNat 8 m &&& ~~~ BitVec.ofNat 8 n).isLt
    exact wrap_rng (k := .u8) (by simp only [rng]; omega)
  have hlt := (BitVec.ofNat 8 m &&& ~~~ BitVec.ofNat 8 n).isLt
  refine ⟨by rw [e]; omega, by rw [e]; omega, fun b hb => ?_⟩
  rw [e]
  unfold bt
  rw [Int.toNat_natCast, Int.toNat_natCast, Int.toNat_natCast, BitVec.testBit_toNat, BitVec.getLsbD_and, BitVec.getLsbD_not, BitVec.getLsbD_ofNat, BitVec.getLsbD_ofNat]
  simp [show 7 - b < 8 by omega]
theorem sh_bd {b : Nat} (hb : b < 8) : (0 : Int) ≤ (128 : Int) / 2 ^ b ∧ (128 : Int) / 2 ^ b ≤ 255 := by
  rw [sh_pow hb]
  have h7 : (2 : Nat) ^ (7 - b) ≤ 2 ^ 7 := Nat.pow_le_pow_right (by omega) (by omega)
  generalize (2 : Nat) ^ (7 - b) = m at *
  omega
/-- A pixel cleared. -/
theorem bm_clear {w h : Nat} {f : Nat → Nat → Bool} {x y : Nat} (hx : x < w) (hy : y < h) :
    (bm w h f).set (at8 w x y) (bandn .u8 ((bm w h f).getD (at8 w x y) 0) ((128 : Int) / 2 ^ (x % 8))) = bm w h (fun i j => if i = x ∧ j = y then false else f i j) := by
  have hl := at8_lt hx hy
  have hsh := sh_bd (b := x % 8) (by omega)
  refine ext_getD 0 (by simp only [List.length_set, bm_len]) fun i hi => ?_
  simp only [List.length_set, bm_len] at hi
  have h0 : 0 < st w := st_pos (by omega)
  by_cases e : at8 w x y = i
  · subst e
    rw [getD_set_eq (by rw [bm_len]; exact hl), bm_get hl, bm_get hl]
    obtain ⟨n1, n2, n3⟩ := bandn_nat (bmB_bd w f (at8 w x y)) hsh
    refine byte_ext ⟨n1, n2⟩ (bmB_bd _ _ _) fun b hb => ?_
    rw [n3 b hb, bt_sh (by omega) hb, bmB_bit hb, bmB_bit hb, at8_mod hx, at8_div hx]
    by_cases eb : b = x % 8
    · subst eb
      rw [show 8 * (x / 8) + x % 8 = x by omega]; simp
    · rw [decide_eq_false eb, if_neg (by omega)]; simp
  · rw [getD_set_ne e, bm_get hi, bm_get hi]
    unfold bmB
    refine congrArg (fun n : Nat => (n : Int)) (bitsN_congr fun b hb => ?_)
    by_cases hq : 8 * (i % st w) + b = x ∧ i / st w = y
    · exfalso
      apply e
      unfold at8
      have hd := Nat.div_add_mod i (st w)
      rw [hq.2, Nat.mul_comm] at hd
      have : x / 8 = i % st w := by omega
      omega
    · simp only [if_neg hq]
/-- A pixel taken out. -/
theorem set_c (w k : Nat) (f : Nat → Nat → Bool) (x y : Nat) (v : Bool) (hw : Due (1 ≤ w ∧ w ≤ 1024)) (hk : Due (1 ≤ k ∧ k ≤ 1024)) (hx : Due (x < w)) (hy : Due (y < k)) :
    TC R Try.prog bitmap_Set_f [.agg [.int .i64 w, .int .i64 k, .lst Ey (bm w k f)], .int .i64 x, .int .i64 y, .bool v] [] (fun z X => z = .tup [.agg [.int .i64 w, .int .i64 k, .lst Ey (bm w k fun i j => if i = x ∧ j = y then v else f i j)], .int .i64 0] ∧ X = []) := by
  dsimp only [Due] at hw hk hx hy
  have ok : BmOk w k (bm w k f) := bm_ok hw hk
  have cc := bCheck_y w k _ ok
  have bl := bm_len (w := w) (h := k) (f := f)
  have hlb := len_bd hw hk
  have h8 := at8_lt hx hy
  have hbd := bm_bd (w := w) (h := k) (f := f) h8
  refine tc0 env bitmap_Set_s (by rfl) ?_
  dsimp only [bitmap_Set_c]
  cases v with
  | true =>
    have mc := mark_c w k (bm w k f) x y hw hk bl hbd hx hy
    rw [bm_mark hx hy] at mc
    repeat' (first
      | ((with_reducible refine TOps.any ?_); refine TOps.callE env (by rfl) (by rfl) (by rfl) ?_ (cc) (by rfl) ?_)
      | refine GZy_i_y_o bl ?_ ?_ ?_ ?_ ?_ ?_ ?_ ?_
      | with_reducible first | exact BzZq.mk | refine Tw.ret ?_ | refine ImZq.i fun h => ?_ | refine IkZq.i fun hk => ?_)
    rw [bl]
    have ef : (bm w k fun i j => f i j || (decide (i = x) && decide (j = y))) = bm w k fun i j => if i = x ∧ j = y then true else f i j := bm_congr fun i j _ _ => by
      by_cases e : i = x ∧ j = y
      · rw [if_pos e, decide_eq_true e.1, decide_eq_true e.2]; simp
      · rw [if_neg e]
        have : (decide (i = x) && decide (j = y)) = false := by rw [← Bool.decide_and]; exact decide_eq_false e
        rw [this, Bool.or_false]
    rw [ef] at mc
    have bl2 := bm_len (w := w) (h := k) (f := fun i j => if i = x ∧ j = y then true else f i j)
    repeat' (first
      | ((with_reducible refine TOps.any ?_); refine TOps.callHE env [0, 2] (mc) (by rfl) (by rfl) (by rfl) (by rfl) (by rfl) (by rfl) (by repeat' (first | exact trivial | refine ⟨rfl, ?_⟩)) ?_)
      | ((with_reducible refine Tw.retI ?_); refine Tw.frz env 2 (by rfl) (by rfl) (by rfl) ?_ ?_ (Tw.ret ?_))
      | refine GZy_i_y_o (And.intro bl bl2) ?_ ?_ ?_ ?_ ?_ ?_ ?_ ?_
      | with_reducible first | exact BzZq.mk | refine Tw.ret ?_ | refine ImZq.i fun h => ?_ | refine IkZq.i fun hk => ?_)
    rw [cut_all bl2.symm]
    exact ⟨rfl, rfl, rfl⟩
  | false =>
    have sc := stride_c w (by unfold Due; omega)
    have q1 : quo (x : Int) 8 = ((x / 8 : Nat) : Int) := by rw [quo_nn (by omega)]; omega
    have q2 : rem (x : Int) 8 = ((x % 8 : Nat) : Int) := by rw [rem_nn (by omega)]; omega
    have q3 : (y : Int) * (st w : Int) + ((x / 8 : Nat) : Int) = ((at8 w x y : Nat) : Int) := by unfold at8; simp
    have sb := st_bd hw
    have ysb : (y : Int) * (st w : Int) ≤ ((at8 w x y : Nat) : Int) ∧ 0 ≤ (y : Int) * (st w : Int) := ⟨by omega, Int.mul_nonneg (by omega) (by omega)⟩
    have g1 : rng .i64 (quo (x : Int) 8) := by rw [q1]; simp only [rng]; omega
    have g2 : -9223372036854775808 ≤ (y : Int) * (st w : Int) + quo (x : Int) 8 ∧ (y : Int) * (st w : Int) + quo (x : Int) 8 ≤ 9223372036854775807 := by rw [q1, q3]; omega
    have g3 : 0 ≤ (y : Int) * (st w : Int) + quo (x : Int) 8 ∧ (y : Int) * (st w : Int) + quo (x : Int) 8 < ((bm w k f).length : Int) := by rw [q1, q3, bl]; omega
    have g4 : 0 ≤ rem (x : Int) 8 := by rw [q2]; omega
    have row : (bm w k f).set (((y : Int) * (st w : Int) + quo (x : Int) 8).toNat + 0) (bandn .u8 ((bm w k f).getD (((y : Int) * (st w : Int) + quo (x : Int) 8).toNat + 0) 0) ((128 : Int) / 2 ^ (rem (x : Int) 8).toNat)) = bm w k fun i j => if i = x ∧ j = y then false else f i j := by
      rw [q1, q2, q3, Int.toNat_natCast, Int.toNat_natCast, Nat.add_zero]
      exact bm_clear hx hy
    have bl2 : ((bm w k f).set (((y : Int) * (st w : Int) + quo (x : Int) 8).toNat + 0) (bandn .u8 ((bm w k f).getD (((y : Int) * (st w : Int) + quo (x : Int) 8).toNat + 0) 0) ((128 : Int) / 2 ^ (rem (x : Int) 8).toNat))).length = (bm w k f).length := by rw [List.length_set]
    have le2 : 0 + (bm w k f).length ≤ ((bm w k f).set (((y : Int) * (st w : Int) + quo (x : Int) 8).toNat + 0) (bandn .u8 ((bm w k f).getD (((y : Int) * (st w : Int) + quo (x : Int) 8).toNat + 0) 0) ((128 : Int) / 2 ^ (rem (x : Int) 8).toNat))).length := by rw [bl2]; omega
    repeat' (first
      | ((with_reducible refine TOps.any ?_); refine TOps.callE env (by rfl) (by rfl) (by rfl) ?_ (cc) (by rfl) ?_)
      | ((with_reducible refine TDr.any ?_); refine TDr.callE env (by first | rfl | assumption) (by rfl) (by rfl) ?_ (sc) (by rfl) (by rfl) ?_)
      | exact g1
      | exact g2
      | exact g3
      | exact g4
      | exact le2
      | ((with_reducible refine Tw.retI ?_); refine Tw.frz env 2 (by rfl) (by rfl) (by rfl) ?_ ?_ (Tw.ret ?_))
      | refine GZy_i_y_o bl ?_ ?_ ?_ ?_ ?_ ?_ ?_ ?_
      | with_reducible first | exact BzZq.mk | refine Tw.ret ?_ | refine ImZq.i fun h => ?_ | refine IkZq.i fun hk => ?_)
    exact ⟨rfl, congrArg (fun l : List Int => (TV.tup [.agg [.int .i64 w, .int .i64 k, .lst Ey l], .int .i64 0] : TV A)) ((cut_all bl2.symm).trans row), rfl⟩
end Go.Proofs.Ythkilkjngincpaa
namespace Go.Proofs.Ythkilkjngincpaa
open Go Go.Lite
set_option linter.unusedVariables false
set_option linter.unusedSimpArgs false
set_option maxRecDepth 100000
set_option maxHeartbeats 4000000
-- @simp rdi rdy rdo

def rlo (p : Nat → Bool) (a : Nat) : Nat → Nat
  | 0 => a
  | x + 1 => if p x then min (rlo p a x) x else rlo p a x
def rhi (p : Nat → Bool) (c : Nat) : Nat → Nat
  | 0 => c
  | x + 1 => if p x then max (rhi p c x) (x + 1) else rhi p c x
def rany (p : Nat → Bool) : Nat → Bool
  | 0 => false
  | x + 1 => rany p x || p x
theorem run_lo {p : Nat → Bool} {a x : Nat} : ∀ n, (∀ j, x ≤ j → j < x + n → p j = true) → 0 < n → rlo p a (x + n) = min (rlo p a x) x ∧ rhi p a (x + n) = max (rhi p a x) (x + n) ∧ rany p (x + n) = true
  | 0, _, h => by omega
  | 1, hp, _ => by
    have h := hp x (Nat.le_refl _) (by omega)
    simp only [rlo, rhi, rany, h, if_true, Bool.or_true]
    exact ⟨trivial, trivial, trivial⟩
  | n + 2, hp, _ => by
    obtain ⟨h1, h2, h3⟩ := run_lo (a := a) (n + 1) (fun j hj hj2 => hp j hj (by omega)) (by omega)
    have h := hp (x + (n + 1)) (by omega) (by omega)
    refine ⟨?_, ?_, ?_⟩
    · show (if p (x + (n + 1)) then min (rlo p a (x + (n + 1))) (x + (n + 1)) else rlo p a (x + (n + 1))) = _
      rw [if_pos h, h1]; omega
    · show (if p (x + (n + 1)) then max (rhi p a (x + (n + 1))) (x + (n + 1) + 1) else rhi p a (x + (n + 1))) = _
      rw [if_pos h, h2]; omega
    · show (rany p (x + (n + 1)) || p (x + (n + 1))) = true
      rw [h]; simp
theorem rlo_bd (p : Nat → Bool) (a : Nat) : ∀ x, rlo p a x ≤ a
  | 0 => Nat.le_refl _
  | x + 1 => by have := rlo_bd p a x; simp only [rlo]; split <;> omega
theorem rhi_bd (p : Nat → Bool) (c : Nat) : ∀ x, rhi p c x ≤ max c x
  | 0 => by simp only [rhi]; omega
  | x + 1 => by have := rhi_bd p c x; simp only [rhi]; split <;> omega
def bxR (w k : Nat) (d : List Int) (yy a b c e : Nat) : TH A :=
  [some (.cells [.int .i64 w, .int .i64 k, .lst Ey d]), some (.cells [.int .i64 a]), some (.cells [.int .i64 b]), some (.cells [.int .i64 c]), some (.cells [.int .i64 e]), some (.cells [.int .i64 yy]), some (.cells [.ptr 0 0]), some (.cells [.int .i64 yy])]
theorem brow_c (w k : Nat) (d : List Int) (yy : Nat) :
    TC R Try.prog bitmap_Row_f [.ptr 0 0, .int .i64 yy] [some (.cells [.int .i64 w, .int .i64 k, .lst Ey d])]
    (fun v X => v = .fn bitmap_Row_1_f [.ptr 1 0, .ptr 2 0] ∧ X = [some (.cells [.int .i64 w, .int .i64 k, .lst Ey d]), some (.cells [.ptr 0 0]), some (.cells [.int .i64 yy])]) := by
  refine tc env bitmap_Row_s (by rfl) ?_
  dsimp only [bitmap_Row_c]
  repeat' (first
    | refine GZ_i_y_o ?_ ?_ ?_ ?_ ?_ ?_ ?_ ?_
    | with_reducible first | exact BzZq.mk | refine Tw.ret ?_ | refine ImZq.i fun h => ?_ | refine IkZq.i fun hk => ?_)
  exact ⟨rfl, rfl⟩
theorem biter_c (w k : Nat) (d : List Int) (yy a b c e : Nat) (hk : BmOk w k d) (hb : yy ≤ 1024 ∧ a ≤ 1024 ∧ b ≤ 1024 ∧ c ≤ 1024 ∧ e ≤ 1024) (y : YY)
    (hok : YOk R y 45 [26] (.reg camera_box_r6) (.block 3 (.seq (.regd camera_box_r7 camera_box_a7) (.regd camera_box_r8 camera_box_a8))) [(0, .ptr 0 0), (2, .ptr 1 0), (3, .ptr 2 0), (4, .ptr 3 0), (5, .ptr 4 0), (6, .ptr 5 0), (19, .int .i64 k), (20, .int .i64 yy), (25, .fn bitmap_Row_1_f [.ptr 6 0, .ptr 7 0])]) :
    TCY R Try.prog bitmap_Row_1_f y [.yld y.l, .ptr 6 0, .ptr 7 0] (bxR w k d yy a b c e)
    (fun v X => v = .tup [] ∧ X = bxR w k d yy (rlo (fun x => px w k d x yy) a w) (if rany (fun x => px w k d x yy) w then min b yy else b) (rhi (fun x => px w k d x yy) c w) (if rany (fun x => px w k d x yy) w then yy + 1 else e)) := by
  have hw := hk.w1
  have hh := hk.h1
  obtain ⟨p, hp⟩ : ∃ p : Nat → Bool, p = fun x : Nat => px w k d x yy := ⟨_, rfl⟩
  have hp2 : ∀ x : Nat, px w k d x yy = p x := fun x => by rw [hp]
  rw [← hp]
  refine tcy env bitmap_Row_1_s (by rfl) ?_
  dsimp only [bitmap_Row_1_c, bxR]
  repeat' (first
    | refine GZ_i_y_o ?_ ?_ ?_ ?_ ?_ ?_ ?_ ?_
    | with_reducible first | exact BzZq.mk | refine Tw.ret ?_ | refine ImZq.i fun h => ?_ | refine IkZq.i fun hk => ?_)
  refine Tw.loopK [0, 1, 2] (fun x : Nat => x ≤ w) (fun x => w - x) (fun x => [(4, .int .i64 x)])
    (fun x => bxR w k d yy (rlo p a x) (if rany p x then min b yy else b) (rhi p c x) (if rany p x then yy + 1 else e)) ⟨0, Nat.zero_le _, TWk.fcanon env [some 0, some 1, some 2, some 3, some 4, some 5, some 6, some 7] (by rfl) ?_⟩ (fun x hx => ?_)
  · repeat' (first
      | refine GZ_i_y_o ?_ ?_ ?_ ?_ ?_ ?_ ?_ ?_
      | with_reducible first | exact BzZq.mk | refine Tw.ret ?_ | refine ImZq.i fun h => ?_ | refine IkZq.i fun hk => ?_)
    all_goals rfl
  have n1 := rlo_bd p a x
  have n2 := rhi_bd p c x
  have fc := is_c w k d x yy hk
  rw [hp2] at fc
  rcases Nat.lt_or_ge x w with hx | hx
  · cases hpx : p x with
    | false =>
      rw [hpx] at fc
      have r1 : rlo p a (x + 1) = rlo p a x := by simp only [rlo, hpx]; rfl
      have r2 : rhi p c (x + 1) = rhi p c x := by simp only [rhi, hpx]; rfl
      have r3 : rany p (x + 1) = rany p x := by simp only [rany, hpx, Bool.or_false]
      dsimp only [bxR]
      repeat' (first
        | ((with_reducible refine TOps.any ?_); refine TOps.callE env (by rfl) (by rfl) (by rfl) ?_ (fc) (by rfl) ?_)
        | refine GZp_i_y_o ?_ ?_ ?_ ?_ ?_ ?_ ?_ ?_
        | with_reducible first | exact BzZq.mk | refine Tw.ret ?_ | refine ImZq.i fun h => ?_ | refine IkZq.i fun hk => ?_)
      refine ⟨x + 1, by omega, by omega, TWk.fcanon env [some 0, some 1, some 2, some 3, some 4, some 5, some 6, some 7] (by rfl) ?_⟩
      rw [r1, r2, r3]
      repeat' (first
        | refine GZ_i_y_o ?_ ?_ ?_ ?_ ?_ ?_ ?_ ?_
        | with_reducible first | exact BzZq.mk | refine Tw.ret ?_ | refine ImZq.i fun h => ?_ | refine IkZq.i fun hk => ?_)
    | true =>
      rw [hpx] at fc
      dsimp only [bxR]
      repeat' (first
        | ((with_reducible refine TOps.any ?_); refine TOps.callE env (by rfl) (by rfl) (by rfl) ?_ (fc) (by rfl) ?_)
        | refine GZp_i_y_o ?_ ?_ ?_ ?_ ?_ ?_ ?_ ?_
        | with_reducible first | exact BzZq.mk | refine Tw.ret ?_ | refine ImZq.i fun h => ?_ | refine IkZq.i fun hk => ?_)
      refine Tw.loopK [0, 1, 2, 5] (fun z : Nat => x ≤ z ∧ z ≤ w ∧ ∀ j, x ≤ j → j < z → p j = true) (fun z => w - z) (fun z => [(4, .int .i64 z)])
        (fun _ => bxR w k d yy (rlo p a x) (if rany p x then min b yy else b) (rhi p c x) (if rany p x then yy + 1 else e)) ⟨x, ⟨Nat.le_refl _, by omega, fun j h1 h2 => by omega⟩, TWk.fcanon env [some 0, some 1, some 2, some 3, some 4, some 5, some 6, some 7] (by rfl) ?_⟩ (fun z hz => ?_)
      · repeat' (first
          | refine GZ_i_y_o ?_ ?_ ?_ ?_ ?_ ?_ ?_ ?_
          | with_reducible first | exact BzZq.mk | refine Tw.ret ?_ | refine ImZq.i fun h => ?_ | refine IkZq.i fun hk => ?_)
      obtain ⟨hz1, hz2, hz3⟩ := hz
      have fz := is_c w k d z yy hk
      rw [hp2] at fz
      dsimp only [bxR]
      by_cases hzp : z < w ∧ p z = true
      · rw [hzp.2] at fz
        have hzw := hzp.1
        repeat' (first
          | ((with_reducible refine TOps.any ?_); refine TOps.callE env (by rfl) (by rfl) (by rfl) ?_ (fz) (by rfl) ?_)
          | refine GZp_i_y_o ?_ ?_ ?_ ?_ ?_ ?_ ?_ ?_
          | with_reducible first | exact BzZq.mk | refine Tw.ret ?_ | refine ImZq.i fun h => ?_ | refine IkZq.i fun hk => ?_)
        refine ⟨z + 1, ⟨by omega, by omega, fun j h1 h2 => ?_⟩, by omega, TWk.fcanon env [some 0, some 1, some 2, some 3, some 4, some 5, some 6, some 7] (by rfl) ?_⟩
        · by_cases h3 : j = z
          · rw [h3]; exact hzp.2
          · exact hz3 j h1 (by omega)
        · repeat' (first
            | refine GZ_i_y_o ?_ ?_ ?_ ?_ ?_ ?_ ?_ ?_
            | with_reducible first | exact BzZq.mk | refine Tw.ret ?_ | refine ImZq.i fun h => ?_ | refine IkZq.i fun hk => ?_)
      · have hxz : x < z := by
          rcases Nat.lt_or_ge x z with h | h
          · exact h
          · obtain rfl : z = x := by omega
            exact absurd ⟨hx, hpx⟩ hzp
        obtain ⟨n, rfl⟩ : ∃ n, z = x + n := ⟨z - x, by omega⟩
        obtain ⟨u1, _, u3⟩ := run_lo (a := a) n hz3 (by omega)
        obtain ⟨_, u2, _⟩ := run_lo (a := c) n hz3 (by omega)
        have v1 : ((rlo p a (x + n) : Nat) : Int) = min ((rlo p a x : Nat) : Int) (x : Int) := by rw [u1]; omega
        have v2 : ((rhi p c (x + n) : Nat) : Int) = max ((rhi p c x : Nat) : Int) ((x + n : Nat) : Int) := by rw [u2]; omega
        have v3 : (((if rany p (x + n) then min b yy else b : Nat)) : Int) = min ((if rany p x then min b yy else b : Nat) : Int) (yy : Int) := by
          rw [u3, if_pos rfl]; split <;> omega
        have v4 : (((if rany p (x + n) then yy + 1 else e : Nat)) : Int) = (yy : Int) + 1 := by rw [u3, if_pos rfl]; omega
        rcases Nat.lt_or_ge (x + n) w with hzw | hzw
        · have hzf : p (x + n) = false := by
            cases h : p (x + n) with
            | false => rfl
            | true => exact absurd ⟨hzw, h⟩ hzp
          rw [hzf] at fz
          repeat' (first
            | ((with_reducible refine TOps.any ?_); refine TOps.callE env (by rfl) (by rfl) (by rfl) ?_ (fz) (by rfl) ?_)
            | ((with_reducible refine TOps.any ?_); refine TOps.yld rfl (hok) (by rfl) (by rfl) (by rfl) (by rfl) ?_)
            | refine GZp_i_y_o ?_ ?_ ?_ ?_ ?_ ?_ ?_ ?_
            | with_reducible first | exact BzZq.mk | refine Tw.ret ?_ | refine ImZq.i fun h => ?_ | refine IkZq.i fun hk => ?_)
          refine ⟨x + n, by omega, by omega, TWk.fcanon env [some 0, some 1, some 2, some 3, some 4, some 5, some 6, some 7] (by rfl) ?_⟩
          repeat' (first
            | exact v1
            | exact v1.symm
            | exact v2
            | exact v2.symm
            | exact v3
            | exact v3.symm
            | exact v4
            | exact v4.symm
            | refine GZ_i_y_o ?_ ?_ ?_ ?_ ?_ ?_ ?_ ?_
            | with_reducible first | exact BzZq.mk | refine Tw.ret ?_ | refine ImZq.i fun h => ?_ | refine IkZq.i fun hk => ?_)
        · repeat' (first
            | ((with_reducible refine TOps.any ?_); refine TOps.callE env (by rfl) (by rfl) (by rfl) ?_ (fz) (by rfl) ?_)
            | ((with_reducible refine TOps.any ?_); refine TOps.yld rfl (hok) (by rfl) (by rfl) (by rfl) (by rfl) ?_)
            | refine GZp_i_y_o ?_ ?_ ?_ ?_ ?_ ?_ ?_ ?_
            | with_reducible first | exact BzZq.mk | refine Tw.ret ?_ | refine ImZq.i fun h => ?_ | refine IkZq.i fun hk => ?_)
          refine ⟨x + n, by omega, by omega, TWk.fcanon env [some 0, some 1, some 2, some 3, some 4, some 5, some 6, some 7] (by rfl) ?_⟩
          repeat' (first
            | exact v1
            | exact v1.symm
            | exact v2
            | exact v2.symm
            | exact v3
            | exact v3.symm
            | exact v4
            | exact v4.symm
            | refine GZ_i_y_o ?_ ?_ ?_ ?_ ?_ ?_ ?_ ?_
            | with_reducible first | exact BzZq.mk | refine Tw.ret ?_ | refine ImZq.i fun h => ?_ | refine IkZq.i fun hk => ?_)
  · obtain rfl : x = w := by omega
    dsimp only [bxR]
    repeat' (first
      | refine GZp_i_y_o ?_ ?_ ?_ ?_ ?_ ?_ ?_ ?_
      | with_reducible first | exact BzZq.mk | refine Tw.ret ?_ | refine ImZq.i fun h => ?_ | refine IkZq.i fun hk => ?_)
    exact ⟨rfl, rfl⟩
/-- The rectangle of the rows above y. -/
def bxs (f : Nat → Nat → Bool) (w k : Nat) : Nat → Nat × Nat × Nat × Nat
  | 0 => (w, k, 0, 0)
  | y + 1 => (rlo (fun x => f x y) (bxs f w k y).1 w, (if rany (fun x => f x y) w then min (bxs f w k y).2.1 y else (bxs f w k y).2.1), rhi (fun x => f x y) (bxs f w k y).2.2.1 w, (if rany (fun x => f x y) w then y + 1 else (bxs f w k y).2.2.2))
theorem bxs_bd (f : Nat → Nat → Bool) (w k : Nat) : ∀ y, (bxs f w k y).1 ≤ w ∧ (bxs f w k y).2.1 ≤ k ∧ (bxs f w k y).2.2.1 ≤ w ∧ (bxs f w k y).2.2.2 ≤ y
  | 0 => ⟨Nat.le_refl _, Nat.le_refl _, Nat.zero_le _, Nat.le_refl _⟩
  | y + 1 => by
    obtain ⟨h1, h2, h3, h4⟩ := bxs_bd f w k y
    have l := rlo_bd (fun x => f x y) (bxs f w k y).1 w
    have r := rhi_bd (fun x => f x y) (bxs f w k y).2.2.1 w
    simp only [bxs]
    refine ⟨by omega, ?_, by omega, ?_⟩
    · split <;> omega
    · split <;> omega
theorem box_c (w k : Nat) (d : List Int) (hk : BmOk w k d) :
    TC R Try.prog camera_box_f [.ptr 0 0] [some (.cells [.int .i64 w, .int .i64 k, .lst Ey d])]
    (fun v X => v = .tup [.int .i64 (bxs (fun x y => px w k d x y) w k k).1, .int .i64 (bxs (fun x y => px w k d x y) w k k).2.1, .int .i64 (bxs (fun x y => px w k d x y) w k k).2.2.1, .int .i64 (bxs (fun x y => px w k d x y) w k k).2.2.2] ∧ X = [some (.cells [.int .i64 w, .int .i64 k, .lst Ey d])]) := by
  have hw := hk.w1
  have hh := hk.h1
  have raw : TC R Try.prog camera_box_f [.ptr 0 0] [some (.cells [.int .i64 w, .int .i64 k, .lst Ey d])]
      (fun v X => v = .tup [.int .i64 (bxs (fun x y => px w k d x y) w k k).1, .int .i64 (bxs (fun x y => px w k d x y) w k k).2.1, .int .i64 (bxs (fun x y => px w k d x y) w k k).2.2.1, .int .i64 (bxs (fun x y => px w k d x y) w k k).2.2.2] ∧ ∃ a b c e, X = [some (.cells [.int .i64 w, .int .i64 k, .lst Ey d]), a, b, c, e]) := by
    refine tc env camera_box_s (by rfl) ?_
    dsimp only [camera_box_c]
    repeat' (first
      | refine GZp_i_y_o ?_ ?_ ?_ ?_ ?_ ?_ ?_ ?_
      | with_reducible first | exact BzZq.mk | refine Tw.ret ?_ | refine ImZq.i fun h => ?_ | refine IkZq.i fun hk => ?_)
    refine Tw.loopK [] (fun y : Nat => y ≤ k) (fun y => k - y) (fun y => [(0, .ptr 0 0), (2, .ptr 1 0), (3, .ptr 2 0), (4, .ptr 3 0), (5, .ptr 4 0), (19, .int .i64 k), (20, .int .i64 y)])
      (fun y => [some (.cells [.int .i64 w, .int .i64 k, .lst Ey d]), some (.cells [.int .i64 (bxs (fun x y => px w k d x y) w k y).1]), some (.cells [.int .i64 (bxs (fun x y => px w k d x y) w k y).2.1]), some (.cells [.int .i64 (bxs (fun x y => px w k d x y) w k y).2.2.1]), some (.cells [.int .i64 (bxs (fun x y => px w k d x y) w k y).2.2.2])])
      ⟨0, Nat.zero_le _, TWk.fcanon env [some 0, some 1, some 2, some 3, some 4] (by rfl) ?_⟩ (fun y hy => ?_)
    · repeat' (first
        | refine GZ_i_y_o ?_ ?_ ?_ ?_ ?_ ?_ ?_ ?_
        | with_reducible first | exact BzZq.mk | refine Tw.ret ?_ | refine ImZq.i fun h => ?_ | refine IkZq.i fun hk => ?_)
      all_goals rfl
    have bd := bxs_bd (fun x y => px w k d x y) w k y
    have bn : bxs (fun x y => px w k d x y) w k (y + 1) = (rlo (fun x => px w k d x y) (bxs (fun x y => px w k d x y) w k y).1 w, (if rany (fun x => px w k d x y) w then min (bxs (fun x y => px w k d x y) w k y).2.1 y else (bxs (fun x y => px w k d x y) w k y).2.1), rhi (fun x => px w k d x y) (bxs (fun x y => px w k d x y) w k y).2.2.1 w, (if rany (fun x => px w k d x y) w then y + 1 else (bxs (fun x y => px w k d x y) w k y).2.2.2)) := rfl
    rcases Nat.lt_or_ge y k with hy | hy
    · obtain ⟨⟨a, b, c, e⟩, hq⟩ : ∃ q, q = bxs (fun x y => px w k d x y) w k y := ⟨_, rfl⟩
      rw [← hq] at bd bn ⊢
      dsimp only at bd bn ⊢
      repeat' (first
        | ((with_reducible refine TOps.any ?_); refine TOps.callHE env [0] (brow_c w k d y) (by rfl) (by rfl) (by rfl) (by rfl) (by rfl) (by rfl) (by repeat' (first | exact trivial | refine ⟨rfl, ?_⟩)) ?_)
        | refine GZp_i_y_o ?_ ?_ ?_ ?_ ?_ ?_ ?_ ?_
        | with_reducible first | exact BzZq.mk | refine Tw.ret ?_ | refine ImZq.i fun h => ?_ | refine IkZq.i fun hk => ?_)
      refine Tw.weaken (TWk.fcanon env [some 0, some 1, some 2, some 3, some 4, some 5, some 6, some 7] (F' := [(0, .ptr 0 0), (2, .ptr 1 0), (3, .ptr 2 0), (4, .ptr 3 0), (5, .ptr 4 0), (6, .ptr 5 0), (19, .int .i64 k), (20, .int .i64 y), (25, .fn bitmap_Row_1_f [.ptr 6 0, .ptr 7 0])])
        (H' := bxR w k d y a b c e) (by rfl) ?_) ?_
      · repeat' (first
          | refine GZ_i_y_o ?_ ?_ ?_ ?_ ?_ ?_ ?_ ?_
          | with_reducible first | exact BzZq.mk | refine Tw.ret ?_ | refine ImZq.i fun h => ?_ | refine IkZq.i fun hk => ?_)
      refine Tw.rf rfl (by rfl) (fun z hz => (biter_c w k d y a b c e hk (by omega) z hz).mono fun v X h => ?_)
      obtain ⟨_, rfl⟩ := h
      refine blkN (blkN (seqN ?_))
      dsimp only [bxR]
      repeat' (first
        | refine GZp_i_y_o ?_ ?_ ?_ ?_ ?_ ?_ ?_ ?_
        | with_reducible first | exact BzZq.mk | refine Tw.ret ?_ | refine ImZq.i fun h => ?_ | refine IkZq.i fun hk => ?_)
      refine ⟨y + 1, by omega, by omega, TWk.fcanon env [some 0, some 1, some 2, some 3, some 4] (by rfl) ?_⟩
      rw [bn]
      repeat' (first
        | refine GZ_i_y_o ?_ ?_ ?_ ?_ ?_ ?_ ?_ ?_
        | with_reducible first | exact BzZq.mk | refine Tw.ret ?_ | refine ImZq.i fun h => ?_ | refine IkZq.i fun hk => ?_)
    · obtain rfl : y = k := by omega
      repeat' (first
        | refine GZp_i_y_o ?_ ?_ ?_ ?_ ?_ ?_ ?_ ?_
        | with_reducible first | exact BzZq.mk | refine Tw.ret ?_ | refine ImZq.i fun h => ?_ | refine IkZq.i fun hk => ?_)
      exact ⟨rfl, _, _, _, _, rfl⟩
  refine raw.wk fun v X h => ?_
  obtain ⟨rfl, a', b', c', e', rfl⟩ := h
  refine ⟨_, [some (.cells [.int .i64 w, .int .i64 k, .lst Ey d])], TWk.fcanon env [some 0] (F' := [(0, .tup [.int .i64 (bxs (fun x y => px w k d x y) w k k).1, .int .i64 (bxs (fun x y => px w k d x y) w k k).2.1, .int .i64 (bxs (fun x y => px w k d x y) w k k).2.2.1, .int .i64 (bxs (fun x y => px w k d x y) w k k).2.2.2])]) (by rfl) ?_, rfl, rfl⟩
  repeat' (first
    | refine GZ_i_y_o ?_ ?_ ?_ ?_ ?_ ?_ ?_ ?_
    | with_reducible first | exact BzZq.mk | refine Tw.ret ?_ | refine ImZq.i fun h => ?_ | refine IkZq.i fun hk => ?_)
end Go.Proofs.Ythkilkjngincpaa
namespace Go.Proofs.Ythkilkjngincpaa
open Go Go.Lite
set_option linter.unusedVariables false
set_option linter.unusedSimpArgs false
set_option maxRecDepth 100000
set_option maxHeartbeats 4000000
-- @macs Bits4
-- @simp rdi rdy

/-! ### Turns -/
theorem turned1_c (w k : Nat) (D : List Int) (x y : Nat) (ok : BmOk w k D) (hx : x < w) (hy : y < k) :
    TC R Try.prog bitmap_Turned_1_f [.int .i64 x, .int .i64 y, .pel [.pel [.int .i64 w, .int .i64 k, .lst Ey D]]] [] (fun v X => v = .bool (px w k D ((w - 1 - x : Nat) : Int) y) ∧ X = []) := by
  have hw := ok.w1
  have c1 := is_c w k D ((w : Int) - 1 - x) y ok
  have e : ((w : Int) - 1 - x) = ((w - 1 - x : Nat) : Int) := by omega
  refine tc0 env bitmap_Turned_1_s (by rfl) ?_
  dsimp only [bitmap_Turned_1_c]
  repeat' (first
    | ((with_reducible refine TDr.any ?_); refine TDr.callE env (by first | rfl | assumption) (by rfl) (by rfl) ?_ (c1) (by rfl) (by rfl) ?_)
    | refine GZp_i_y ?_ ?_ ?_ ?_ ?_ ?_ ?_ ?_
    | with_reducible first | exact BzZq.mk | refine Tw.ret ?_ | refine ImZq.i fun h => ?_ | refine IkZq.i fun hk => ?_)
  rw [e]
  exact ⟨rfl, rfl, rfl⟩
theorem turned2_c (w k : Nat) (D : List Int) (x y : Nat) (ok : BmOk w k D) (hx : x < k) (hy : y < w) :
    TC R Try.prog bitmap_Turned_2_f [.int .i64 x, .int .i64 y, .pel [.int .i64 w, .int .i64 k, .lst Ey D]] [] (fun v X => v = .bool (px w k D y ((k - 1 - x : Nat) : Int)) ∧ X = []) := by
  have hh := ok.h1
  have c1 := is_c w k D y ((k : Int) - 1 - x) ok
  have e : ((k : Int) - 1 - x) = ((k - 1 - x : Nat) : Int) := by omega
  refine tc0 env bitmap_Turned_2_s (by rfl) ?_
  dsimp only [bitmap_Turned_2_c]
  repeat' (first
    | ((with_reducible refine TOps.any ?_); refine TOps.callV env (by rfl) (by rfl) (by rfl) (c1) ?_)
    | refine GZp_i_y ?_ ?_ ?_ ?_ ?_ ?_ ?_ ?_
    | with_reducible first | exact BzZq.mk | refine Tw.ret ?_ | refine ImZq.i fun h => ?_ | refine IkZq.i fun hk => ?_)
  rw [e]
  exact ⟨rfl, rfl, rfl⟩
theorem fromTurn1_h (w k : Nat) (a b : Int) (d : List Int) (g : Nat → Nat → Bool) (hw : Due (1 ≤ w ∧ w ≤ 1024)) (hk : Due (1 ≤ k ∧ k ≤ 1024))
    (hf : ∀ x y : Nat, x < w → y < k → TC R Try.prog bitmap_Turned_1_f [.int .i64 x, .int .i64 y, .pel [.pel [.int .i64 a, .int .i64 b, .lst Ey d]]] [] (fun v X => v = .bool (g x y) ∧ X = [])) :
    TC R Try.prog bitmap_from_f [.int .i64 w, .int .i64 k, .fn bitmap_Turned_1_f [.ptr 1 0]] [some (.cells [.int .i64 a, .int .i64 b, .lst Ey d]), some (.cells [.ptr 0 0])] (fun v X => v = .agg [.int .i64 w, .int .i64 k, .lst Ey (bm w k g)] ∧ X = [some (.cells [.int .i64 a, .int .i64 b, .lst Ey d]), some (.cells [.ptr 0 0])]) := by
  dsimp only [Due] at hw hk
  have hlb := len_bd hw hk
  have sb := st_bd hw
  have bc := blank_c w k hw hk
  rw [bm_congr (g := upto g 0 0) fun x y _ _ => upto_none.symm] at bc
  have raw : TC R Try.prog bitmap_from_f [.int .i64 w, .int .i64 k, .fn bitmap_Turned_1_f [.ptr 1 0]] [some (.cells [.int .i64 a, .int .i64 b, .lst Ey d]), some (.cells [.ptr 0 0])] (fun v X => v = .agg [.int .i64 w, .int .i64 k, .lst Ey (bm w k g)] ∧ ∃ a' b' c', X = [some (.cells [.int .i64 a, .int .i64 b, .lst Ey d]), some (.cells [.ptr 0 0]), a', b', c']) := by
   refine tc env bitmap_from_s (by rfl) ?_
   dsimp only [bitmap_from_c]
   repeat' (first
     | ((with_reducible refine TOps.any ?_); refine TOps.callV env (by rfl) (by rfl) (by rfl) (bc) ?_)
     | refine GZp_i_y ?_ ?_ ?_ ?_ ?_ ?_ ?_ ?_
     | with_reducible first | exact BzZq.mk | refine Tw.ret ?_ | refine ImZq.i fun h => ?_ | refine IkZq.i fun hk => ?_)
   refine Tw.loopK [0, 1, 2] (fun y : Nat => y ≤ k) (fun y => k - y) (fun y => [(13, .int .i64 k), (14, .int .i64 y), (6, .ptr 2 0), (7, .ptr 4 0)])
     (fun y => [some (.cells [.int .i64 a, .int .i64 b, .lst Ey d]), some (.cells [.ptr 0 0]), some (.cells [.int .i64 0, .int .i64 0, .nils]), some (.arr Ey (bm w k (upto g 0 y))), some (.cells [.int .i64 w, .int .i64 k, .sla 1 3 0 (st w * k)])]) ⟨0, by omega, TWk.fcanon env [some 0, some 1, some 2, some 3, some 4] (by rfl) ?_⟩ (fun y hy => ?_)
   · repeat' (first
       | refine GZ_i_y ?_ ?_ ?_ ?_ ?_ ?_ ?_ ?_
       | with_reducible first | exact BzZq.mk | refine Tw.ret ?_ | refine ImZq.i fun h => ?_ | refine IkZq.i fun hk => ?_)
   rcases Nat.lt_or_ge y k with hy | hy
   · repeat' (first
       | refine GZp_i_y ?_ ?_ ?_ ?_ ?_ ?_ ?_ ?_
       | with_reducible first | exact BzZq.mk | refine Tw.ret ?_ | refine ImZq.i fun h => ?_ | refine IkZq.i fun hk => ?_)
     refine Tw.loopK [0, 1, 2, 13, 14, 6, 7, 8] (fun x : Nat => x ≤ w) (fun x => w - x) (fun x => [(17, .int .i64 w), (18, .int .i64 x)])
       (fun x => [some (.cells [.int .i64 a, .int .i64 b, .lst Ey d]), some (.cells [.ptr 0 0]), some (.cells [.int .i64 0, .int .i64 0, .nils]), some (.arr Ey (bm w k (upto g x y))), some (.cells [.int .i64 w, .int .i64 k, .sla 1 3 0 (st w * k)])]) ⟨0, by omega, TWk.fcanon env [some 0, some 1, some 2, some 3, some 4] (by rfl) ?_⟩ (fun x hx => ?_)
     · repeat' (first
         | refine GZ_i_y ?_ ?_ ?_ ?_ ?_ ?_ ?_ ?_
         | with_reducible first | exact BzZq.mk | refine Tw.ret ?_ | refine ImZq.i fun h => ?_ | refine IkZq.i fun hk => ?_)
     rcases Nat.lt_or_ge x w with hx | hx
     · have fc := hf x y hx hy
       have hbd := bm_bd (w := w) (h := k) (f := upto g x y) (at8_lt hx hy)
       have hbl := bm_len (w := w) (h := k) (f := upto g x y)
       have hmk := bm_mark (f := upto g x y) hx hy
       have mc := mark_c w k (bm w k (upto g x y)) x y hw hk hbl hbd hx hy
       rw [hmk] at mc
       cases hg : g x y
       · rw [hg] at fc
         rw [bm_congr fun i j _ _ => upto_no hg i j] at *
         repeat' (first
           | ((with_reducible refine TOps.any ?_); refine TOps.callE env (by rfl) (by rfl) (by rfl) ?_ (fc) (by rfl) ?_)
           | refine GZp_i_y ?_ ?_ ?_ ?_ ?_ ?_ ?_ ?_
           | with_reducible first | exact BzZq.mk | refine Tw.ret ?_ | refine ImZq.i fun h => ?_ | refine IkZq.i fun hk => ?_)
         refine ⟨x + 1, by omega, by omega, TWk.fcanon env [some 0, some 1, some 2, some 3, some 4] (by rfl) ?_⟩
         repeat' (first
           | refine GZ_i_y ?_ ?_ ?_ ?_ ?_ ?_ ?_ ?_
           | with_reducible first | exact BzZq.mk | refine Tw.ret ?_ | refine ImZq.i fun h => ?_ | refine IkZq.i fun hk => ?_)
       · rw [hg] at fc
         rw [bm_congr (f := fun i j => upto g x y i j || (decide (i = x) && decide (j = y))) fun i j _ _ => upto_yes hg i j] at mc
         repeat' (first
           | ((with_reducible refine TOps.any ?_); refine TOps.callE env (by rfl) (by rfl) (by rfl) ?_ (fc) (by rfl) ?_)
           | ((with_reducible refine TOps.any ?_); refine TOps.callHE env [4, 3] (mc) (by rfl) (by rfl) (by rfl) (by rfl) (by rfl) (by rfl) (by repeat' (first | exact trivial | refine ⟨rfl, ?_⟩)) ?_)
           | refine GZp_i_y ?_ ?_ ?_ ?_ ?_ ?_ ?_ ?_
           | with_reducible first | exact BzZq.mk | refine Tw.ret ?_ | refine ImZq.i fun h => ?_ | refine IkZq.i fun hk => ?_)
         refine ⟨x + 1, by omega, by omega, TWk.fcanon env [some 0, some 1, some 2, some 3, some 4] (by rfl) ?_⟩
         repeat' (first
           | refine GZ_i_y ?_ ?_ ?_ ?_ ?_ ?_ ?_ ?_
           | with_reducible first | exact BzZq.mk | refine Tw.ret ?_ | refine ImZq.i fun h => ?_ | refine IkZq.i fun hk => ?_)
     · obtain rfl : x = w := by omega
       rw [bm_congr fun i j hi _ => upto_row (g := g) (y := y) hi]
       repeat' (first
         | refine GZp_i_y ?_ ?_ ?_ ?_ ?_ ?_ ?_ ?_
         | with_reducible first | exact BzZq.mk | refine Tw.ret ?_ | refine ImZq.i fun h => ?_ | refine IkZq.i fun hk => ?_)
       refine ⟨y + 1, by omega, by omega, TWk.fcanon env [some 0, some 1, some 2, some 3, some 4] (by rfl) ?_⟩
       repeat' (first
         | refine GZ_i_y ?_ ?_ ?_ ?_ ?_ ?_ ?_ ?_
         | with_reducible first | exact BzZq.mk | refine Tw.ret ?_ | refine ImZq.i fun h => ?_ | refine IkZq.i fun hk => ?_)
   · obtain rfl : y = k := by omega
     rw [bm_congr fun i j _ hj => upto_all (g := g) hj]
     have hbl := bm_len (w := w) (h := y) (f := g)
     have hle : 0 + st w * y ≤ (bm w y g).length := by omega
     repeat' (first
       | exact hle
       | ((with_reducible refine Tw.retI ?_); refine Tw.frz env 3 (by rfl) (by rfl) (by rfl) ?_ ?_ (Tw.ret ?_))
       | refine GZp_i_y ?_ ?_ ?_ ?_ ?_ ?_ ?_ ?_
       | with_reducible first | exact BzZq.mk | refine Tw.ret ?_ | refine ImZq.i fun h => ?_ | refine IkZq.i fun hk => ?_)
     rw [cut_all bm_len.symm]
     exact ⟨rfl, _, _, _, rfl⟩
  refine raw.wk fun v X h => ?_
  obtain ⟨rfl, a', b', c', rfl⟩ := h
  refine ⟨_, [some (.cells [.int .i64 a, .int .i64 b, .lst Ey d]), some (.cells [.ptr 0 0])], TWk.fcanon env [some 0, some 1] (F' := [(0, .agg [.int .i64 w, .int .i64 k, .lst Ey (bm w k g)])]) (by rfl) ?_, rfl, rfl⟩
  repeat' (first
    | refine GZ_i_y ?_ ?_ ?_ ?_ ?_ ?_ ?_ ?_
    | with_reducible first | exact BzZq.mk | refine Tw.ret ?_ | refine ImZq.i fun h => ?_ | refine IkZq.i fun hk => ?_)
theorem fromTurn2_h (w k : Nat) (a b : Int) (d : List Int) (g : Nat → Nat → Bool) (hw : Due (1 ≤ w ∧ w ≤ 1024)) (hk : Due (1 ≤ k ∧ k ≤ 1024))
    (hf : ∀ x y : Nat, x < w → y < k → TC R Try.prog bitmap_Turned_2_f [.int .i64 x, .int .i64 y, .pel [.int .i64 a, .int .i64 b, .lst Ey d]] [] (fun v X => v = .bool (g x y) ∧ X = [])) :
    TC R Try.prog bitmap_from_f [.int .i64 w, .int .i64 k, .fn bitmap_Turned_2_f [.ptr 0 0]] [some (.cells [.int .i64 a, .int .i64 b, .lst Ey d])] (fun v X => v = .agg [.int .i64 w, .int .i64 k, .lst Ey (bm w k g)] ∧ X = [some (.cells [.int .i64 a, .int .i64 b, .lst Ey d])]) := by
  dsimp only [Due] at hw hk
  have hlb := len_bd hw hk
  have sb := st_bd hw
  have bc := blank_c w k hw hk
  rw [bm_congr (g := upto g 0 0) fun x y _ _ => upto_none.symm] at bc
  have raw : TC R Try.prog bitmap_from_f [.int .i64 w, .int .i64 k, .fn bitmap_Turned_2_f [.ptr 0 0]] [some (.cells [.int .i64 a, .int .i64 b, .lst Ey d])] (fun v X => v = .agg [.int .i64 w, .int .i64 k, .lst Ey (bm w k g)] ∧ ∃ a' b' c', X = [some (.cells [.int .i64 a, .int .i64 b, .lst Ey d]), a', b', c']) := by
   refine tc env bitmap_from_s (by rfl) ?_
   dsimp only [bitmap_from_c]
   repeat' (first
     | ((with_reducible refine TOps.any ?_); refine TOps.callV env (by rfl) (by rfl) (by rfl) (bc) ?_)
     | refine GZp_i_y ?_ ?_ ?_ ?_ ?_ ?_ ?_ ?_
     | with_reducible first | exact BzZq.mk | refine Tw.ret ?_ | refine ImZq.i fun h => ?_ | refine IkZq.i fun hk => ?_)
   refine Tw.loopK [0, 1, 2] (fun y : Nat => y ≤ k) (fun y => k - y) (fun y => [(13, .int .i64 k), (14, .int .i64 y), (6, .ptr 1 0), (7, .ptr 3 0)])
     (fun y => [some (.cells [.int .i64 a, .int .i64 b, .lst Ey d]), some (.cells [.int .i64 0, .int .i64 0, .nils]), some (.arr Ey (bm w k (upto g 0 y))), some (.cells [.int .i64 w, .int .i64 k, .sla 1 2 0 (st w * k)])]) ⟨0, by omega, TWk.fcanon env [some 0, some 1, some 2, some 3] (by rfl) ?_⟩ (fun y hy => ?_)
   · repeat' (first
       | refine GZ_i_y ?_ ?_ ?_ ?_ ?_ ?_ ?_ ?_
       | with_reducible first | exact BzZq.mk | refine Tw.ret ?_ | refine ImZq.i fun h => ?_ | refine IkZq.i fun hk => ?_)
   rcases Nat.lt_or_ge y k with hy | hy
   · repeat' (first
       | refine GZp_i_y ?_ ?_ ?_ ?_ ?_ ?_ ?_ ?_
       | with_reducible first | exact BzZq.mk | refine Tw.ret ?_ | refine ImZq.i fun h => ?_ | refine IkZq.i fun hk => ?_)
     refine Tw.loopK [0, 1, 2, 13, 14, 6, 7, 8] (fun x : Nat => x ≤ w) (fun x => w - x) (fun x => [(17, .int .i64 w), (18, .int .i64 x)])
       (fun x => [some (.cells [.int .i64 a, .int .i64 b, .lst Ey d]), some (.cells [.int .i64 0, .int .i64 0, .nils]), some (.arr Ey (bm w k (upto g x y))), some (.cells [.int .i64 w, .int .i64 k, .sla 1 2 0 (st w * k)])]) ⟨0, by omega, TWk.fcanon env [some 0, some 1, some 2, some 3] (by rfl) ?_⟩ (fun x hx => ?_)
     · repeat' (first
         | refine GZ_i_y ?_ ?_ ?_ ?_ ?_ ?_ ?_ ?_
         | with_reducible first | exact BzZq.mk | refine Tw.ret ?_ | refine ImZq.i fun h => ?_ | refine IkZq.i fun hk => ?_)
     rcases Nat.lt_or_ge x w with hx | hx
     · have fc := hf x y hx hy
       have hbd := bm_bd (w := w) (h := k) (f := upto g x y) (at8_lt hx hy)
       have hbl := bm_len (w := w) (h := k) (f := upto g x y)
       have hmk := bm_mark (f := upto g x y) hx hy
       have mc := mark_c w k (bm w k (upto g x y)) x y hw hk hbl hbd hx hy
       rw [hmk] at mc
       cases hg : g x y
       · rw [hg] at fc
         rw [bm_congr fun i j _ _ => upto_no hg i j] at *
         repeat' (first
           | ((with_reducible refine TOps.any ?_); refine TOps.callE env (by rfl) (by rfl) (by rfl) ?_ (fc) (by rfl) ?_)
           | refine GZp_i_y ?_ ?_ ?_ ?_ ?_ ?_ ?_ ?_
           | with_reducible first | exact BzZq.mk | refine Tw.ret ?_ | refine ImZq.i fun h => ?_ | refine IkZq.i fun hk => ?_)
         refine ⟨x + 1, by omega, by omega, TWk.fcanon env [some 0, some 1, some 2, some 3] (by rfl) ?_⟩
         repeat' (first
           | refine GZ_i_y ?_ ?_ ?_ ?_ ?_ ?_ ?_ ?_
           | with_reducible first | exact BzZq.mk | refine Tw.ret ?_ | refine ImZq.i fun h => ?_ | refine IkZq.i fun hk => ?_)
       · rw [hg] at fc
         rw [bm_congr (f := fun i j => upto g x y i j || (decide (i = x) && decide (j = y))) fun i j _ _ => upto_yes hg i j] at mc
         repeat' (first
           | ((with_reducible refine TOps.any ?_); refine TOps.callE env (by rfl) (by rfl) (by rfl) ?_ (fc) (by rfl) ?_)
           | ((with_reducible refine TOps.any ?_); refine TOps.callHE env [3, 2] (mc) (by rfl) (by rfl) (by rfl) (by rfl) (by rfl) (by rfl) (by repeat' (first | exact trivial | refine ⟨rfl, ?_⟩)) ?_)
           | refine GZp_i_y ?_ ?_ ?_ ?_ ?_ ?_ ?_ ?_
           | with_reducible first | exact BzZq.mk | refine Tw.ret ?_ | refine ImZq.i fun h => ?_ | refine IkZq.i fun hk => ?_)
         refine ⟨x + 1, by omega, by omega, TWk.fcanon env [some 0, some 1, some 2, some 3] (by rfl) ?_⟩
         repeat' (first
           | refine GZ_i_y ?_ ?_ ?_ ?_ ?_ ?_ ?_ ?_
           | with_reducible first | exact BzZq.mk | refine Tw.ret ?_ | refine ImZq.i fun h => ?_ | refine IkZq.i fun hk => ?_)
     · obtain rfl : x = w := by omega
       rw [bm_congr fun i j hi _ => upto_row (g := g) (y := y) hi]
       repeat' (first
         | refine GZp_i_y ?_ ?_ ?_ ?_ ?_ ?_ ?_ ?_
         | with_reducible first | exact BzZq.mk | refine Tw.ret ?_ | refine ImZq.i fun h => ?_ | refine IkZq.i fun hk => ?_)
       refine ⟨y + 1, by omega, by omega, TWk.fcanon env [some 0, some 1, some 2, some 3] (by rfl) ?_⟩
       repeat' (first
         | refine GZ_i_y ?_ ?_ ?_ ?_ ?_ ?_ ?_ ?_
         | with_reducible first | exact BzZq.mk | refine Tw.ret ?_ | refine ImZq.i fun h => ?_ | refine IkZq.i fun hk => ?_)
   · obtain rfl : y = k := by omega
     rw [bm_congr fun i j _ hj => upto_all (g := g) hj]
     have hbl := bm_len (w := w) (h := y) (f := g)
     have hle : 0 + st w * y ≤ (bm w y g).length := by omega
     repeat' (first
       | exact hle
       | ((with_reducible refine Tw.retI ?_); refine Tw.frz env 2 (by rfl) (by rfl) (by rfl) ?_ ?_ (Tw.ret ?_))
       | refine GZp_i_y ?_ ?_ ?_ ?_ ?_ ?_ ?_ ?_
       | with_reducible first | exact BzZq.mk | refine Tw.ret ?_ | refine ImZq.i fun h => ?_ | refine IkZq.i fun hk => ?_)
     rw [cut_all bm_len.symm]
     exact ⟨rfl, _, _, _, rfl⟩
  refine raw.wk fun v X h => ?_
  obtain ⟨rfl, a', b', c', rfl⟩ := h
  refine ⟨_, [some (.cells [.int .i64 a, .int .i64 b, .lst Ey d])], TWk.fcanon env [some 0] (F' := [(0, .agg [.int .i64 w, .int .i64 k, .lst Ey (bm w k g)])]) (by rfl) ?_, rfl, rfl⟩
  repeat' (first
    | refine GZ_i_y ?_ ?_ ?_ ?_ ?_ ?_ ?_ ?_
    | with_reducible first | exact BzZq.mk | refine Tw.ret ?_ | refine ImZq.i fun h => ?_ | refine IkZq.i fun hk => ?_)

abbrev Bm3 := Nat × Nat × List Int
/-- A quarter clockwise. -/
def rotD (t : Bm3) : Bm3 := (t.2.1, t.1, bm t.2.1 t.1 fun x y => px t.1 t.2.1 t.2.2 y ((t.2.1 - 1 - x : Nat) : Int))
def mirD (t : Bm3) : Bm3 := (t.1, t.2.1, bm t.1 t.2.1 fun x y => px t.1 t.2.1 t.2.2 ((t.1 - 1 - x : Nat) : Int) y)
def rots (t : Bm3) : Nat → Bm3
  | 0 => t
  | n + 1 => rotD (rots t n)
def Ok3 (t : Bm3) : Prop := BmOk t.1 t.2.1 t.2.2
theorem rots_ok {t : Bm3} (h : Ok3 t) : ∀ n, Ok3 (rots t n)
  | 0 => h
  | n + 1 => bm_ok (rots_ok h n).h1 (rots_ok h n).w1
theorem mir_ok {t : Bm3} (h : Ok3 t) : Ok3 (mirD t) := bm_ok h.w1 h.h1
/-- Turn by j. -/
def trn (t : Bm3) (j : Nat) : Bm3 := rots (if 4 ≤ j then mirD t else t) (j % 4)
theorem trn_ok {t : Bm3} (h : Ok3 t) (j : Nat) : Ok3 (trn t j) := by
  unfold trn
  split
  · exact rots_ok (mir_ok h) _
  · exact rots_ok h _
def enT (t : Bm3) : TV A := .agg [.int .i64 t.1, .int .i64 t.2.1, .lst Ey t.2.2]

theorem turned_c (w k : Nat) (D : List Int) (j : Nat) (ok : BmOk w k D) (hj : j < 8) :
    TC R Try.prog bitmap_Turned_f [.ptr 0 0, .int .i64 j] [some (.cells [.int .i64 w, .int .i64 k, .lst Ey D])] (fun v X => v = enT (trn (w, k, D) j) ∧ X = [some (.cells [.int .i64 w, .int .i64 k, .lst Ey D])]) := by
  have hlb := len_bd ok.w1 ok.h1
  have hl := ok.len
  have e1 : rem (j : Int) 4 = ((j % 4 : Nat) : Int) := by rw [rem_nn (by omega)]; omega
  have fc := fromTurn1_h w k w k D (fun x y => px w k D ((w - 1 - x : Nat) : Int) y) ok.w1 ok.h1 fun x y hx hy => turned1_c w k D x y ok hx hy
  have ecut : cut D 0 D.length = D := cut_full
  have ok0 : Ok3 (w, k, D) := ok
  have raw : TC R Try.prog bitmap_Turned_f [.ptr 0 0, .int .i64 j] [some (.cells [.int .i64 w, .int .i64 k, .lst Ey D])] (fun v X => v = enT (trn (w, k, D) j) ∧ ∃ a' b' c', X = [some (.cells [.int .i64 w, .int .i64 k, .lst Ey D]), a', b', c']) := by
    refine tc env bitmap_Turned_s (by rfl) ?_
    dsimp only [bitmap_Turned_c]
    rcases Nat.lt_or_ge j 4 with hj4 | hj4
    · repeat' (first
        | refine GZp_i_y ?_ ?_ ?_ ?_ ?_ ?_ ?_ ?_
        | with_reducible first | exact BzZq.mk | refine Tw.ret ?_ | refine ImZq.i fun h => ?_ | refine IkZq.i fun hk => ?_)
      refine Tw.frz env 4 (by rfl) (by rfl) (by rfl) ?_ ?_ ?_
      · repeat' (first
          | refine GZ_i_y ?_ ?_ ?_ ?_ ?_ ?_ ?_ ?_
          | with_reducible first | exact BzZq.mk | refine Tw.ret ?_ | refine ImZq.i fun h => ?_ | refine IkZq.i fun hk => ?_)
      · repeat' (first
          | refine GZ_i_y ?_ ?_ ?_ ?_ ?_ ?_ ?_ ?_
          | with_reducible first | exact BzZq.mk | refine Tw.ret ?_ | refine ImZq.i fun h => ?_ | refine IkZq.i fun hk => ?_)
      refine Tw.loopK [] (fun i : Nat => i ≤ j % 4) (fun i => j % 4 - i) (fun i => [(29, .int .i64 ((j % 4 : Nat) : Int)), (30, .int .i64 i), (4, .ptr 2 0), (5, .ptr 3 0)])
        (fun i => [some (.cells [.int .i64 w, .int .i64 k, .lst Ey D]), some (.cells [.ptr 0 0]), some (.cells [.int .i64 0, .int .i64 0, .nils]), some (.cells [.int .i64 (rots (w, k, D) i).1, .int .i64 (rots (w, k, D) i).2.1, .lst Ey (rots (w, k, D) i).2.2])])
        ⟨0, by omega, TWk.fcanon env [some 0, some 1, some 2, some 3] (by rfl) ?_⟩ (fun i hi => ?_)
      · repeat' (first
          | exact e1.symm
          | exact rfl
          | exact ecut.symm
          | refine GZ_i_y ?_ ?_ ?_ ?_ ?_ ?_ ?_ ?_
          | with_reducible first | exact BzZq.mk | refine Tw.ret ?_ | refine ImZq.i fun h => ?_ | refine IkZq.i fun hk => ?_)
      rcases Nat.lt_or_ge i (j % 4) with hi | hi
      · have oki := rots_ok ok0 i
        have f2 := fromTurn2_h (rots (w, k, D) i).2.1 (rots (w, k, D) i).1 (rots (w, k, D) i).1 (rots (w, k, D) i).2.1 (rots (w, k, D) i).2.2 _ oki.h1 oki.w1 fun x y hx hy => turned2_c (rots (w, k, D) i).1 (rots (w, k, D) i).2.1 (rots (w, k, D) i).2.2 x y oki hx hy
        repeat' (first
          | ((with_reducible refine TOps.any ?_); refine TOps.callHE env [4] (f2) (by rfl) (by rfl) (by rfl) (by rfl) (by rfl) (by rfl) (by repeat' (first | exact trivial | refine ⟨rfl, ?_⟩)) ?_)
          | refine GZp_i_y ?_ ?_ ?_ ?_ ?_ ?_ ?_ ?_
          | with_reducible first | exact BzZq.mk | refine Tw.ret ?_ | refine ImZq.i fun h => ?_ | refine IkZq.i fun hk => ?_)
        refine ⟨i + 1, by omega, by omega, TWk.fcanon env [some 0, some 1, some 2, some 3] (by rfl) ?_⟩
        repeat' (first
          | exact rfl
          | refine GZ_i_y ?_ ?_ ?_ ?_ ?_ ?_ ?_ ?_
          | with_reducible first | exact BzZq.mk | refine Tw.ret ?_ | refine ImZq.i fun h => ?_ | refine IkZq.i fun hk => ?_)
      · obtain rfl : i = j % 4 := by omega
        repeat' (first
          | refine GZp_i_y ?_ ?_ ?_ ?_ ?_ ?_ ?_ ?_
          | with_reducible first | exact BzZq.mk | refine Tw.ret ?_ | refine ImZq.i fun h => ?_ | refine IkZq.i fun hk => ?_)
        refine ⟨?_, _, _, _, rfl⟩
        unfold trn enT
        rw [if_neg (show ¬ 4 ≤ j by omega)]
    · repeat' (first
        | ((with_reducible refine TDr.any ?_); refine TDr.callHD env [0, 1] (fc) (by first | rfl | assumption) (by rfl) (by rfl) (by rfl) (by rfl) (by rfl) (fun _ => by rfl) (fun _ => by repeat' (first | exact trivial | refine ⟨rfl, ?_⟩)) (fun _ => by rfl) (fun _ => by rfl) ?_)
        | refine GZp_i_y ?_ ?_ ?_ ?_ ?_ ?_ ?_ ?_
        | with_reducible first | exact BzZq.mk | refine Tw.ret ?_ | refine ImZq.i fun h => ?_ | refine IkZq.i fun hk => ?_)
      refine Tw.loopK [] (fun i : Nat => i ≤ j % 4) (fun i => j % 4 - i) (fun i => [(29, .int .i64 ((j % 4 : Nat) : Int)), (30, .int .i64 i), (4, .ptr 2 0), (5, .ptr 3 0)])
        (fun i => [some (.cells [.int .i64 w, .int .i64 k, .lst Ey D]), some (.cells [.ptr 0 0]), some (.cells [.int .i64 0, .int .i64 0, .nils]), some (.cells [.int .i64 (rots (mirD (w, k, D)) i).1, .int .i64 (rots (mirD (w, k, D)) i).2.1, .lst Ey (rots (mirD (w, k, D)) i).2.2])])
        ⟨0, by omega, TWk.fcanon env [some 0, some 1, some 2, some 3] (by rfl) ?_⟩ (fun i hi => ?_)
      · repeat' (first
          | exact e1.symm
          | exact rfl
          | exact ecut.symm
          | refine GZ_i_y ?_ ?_ ?_ ?_ ?_ ?_ ?_ ?_
          | with_reducible first | exact BzZq.mk | refine Tw.ret ?_ | refine ImZq.i fun h => ?_ | refine IkZq.i fun hk => ?_)
      rcases Nat.lt_or_ge i (j % 4) with hi | hi
      · have oki := rots_ok (mir_ok ok0) i
        have f2 := fromTurn2_h (rots (mirD (w, k, D)) i).2.1 (rots (mirD (w, k, D)) i).1 (rots (mirD (w, k, D)) i).1 (rots (mirD (w, k, D)) i).2.1 (rots (mirD (w, k, D)) i).2.2 _ oki.h1 oki.w1 fun x y hx hy => turned2_c (rots (mirD (w, k, D)) i).1 (rots (mirD (w, k, D)) i).2.1 (rots (mirD (w, k, D)) i).2.2 x y oki hx hy
        repeat' (first
          | ((with_reducible refine TOps.any ?_); refine TOps.callHE env [4] (f2) (by rfl) (by rfl) (by rfl) (by rfl) (by rfl) (by rfl) (by repeat' (first | exact trivial | refine ⟨rfl, ?_⟩)) ?_)
          | refine GZp_i_y ?_ ?_ ?_ ?_ ?_ ?_ ?_ ?_
          | with_reducible first | exact BzZq.mk | refine Tw.ret ?_ | refine ImZq.i fun h => ?_ | refine IkZq.i fun hk => ?_)
        refine ⟨i + 1, by omega, by omega, TWk.fcanon env [some 0, some 1, some 2, some 3] (by rfl) ?_⟩
        repeat' (first
          | exact rfl
          | refine GZ_i_y ?_ ?_ ?_ ?_ ?_ ?_ ?_ ?_
          | with_reducible first | exact BzZq.mk | refine Tw.ret ?_ | refine ImZq.i fun h => ?_ | refine IkZq.i fun hk => ?_)
      · obtain rfl : i = j % 4 := by omega
        repeat' (first
          | refine GZp_i_y ?_ ?_ ?_ ?_ ?_ ?_ ?_ ?_
          | with_reducible first | exact BzZq.mk | refine Tw.ret ?_ | refine ImZq.i fun h => ?_ | refine IkZq.i fun hk => ?_)
        refine ⟨?_, _, _, _, rfl⟩
        unfold trn enT
        rw [if_pos hj4]
  refine raw.wk fun v X h => ?_
  obtain ⟨rfl, a', b', c', rfl⟩ := h
  refine ⟨_, [some (.cells [.int .i64 w, .int .i64 k, .lst Ey D])], TWk.fcanon env [some 0] (F' := [(0, .agg [.int .i64 (trn (w, k, D) j).1, .int .i64 (trn (w, k, D) j).2.1, .lst Ey (trn (w, k, D) j).2.2])]) (by rfl) ?_, rfl, rfl⟩
  repeat' (first
    | refine GZ_i_y ?_ ?_ ?_ ?_ ?_ ?_ ?_ ?_
    | with_reducible first | exact BzZq.mk | refine Tw.ret ?_ | refine ImZq.i fun h => ?_ | refine IkZq.i fun hk => ?_)

end Go.Proofs.Ythkilkjngincpaa
namespace Go.Proofs.Ythkilkjngincpaa
open Go Go.Lite
set_option linter.unusedVariables false
set_option linter.unusedSimpArgs false
set_option maxRecDepth 100000
set_option maxHeartbeats 4000000
-- @simp rdi rdy

theorem quo_rng {a b : Int} (ha : 0 ≤ a) (hb : 0 < b) (h : a ≤ 9223372036854775807) : rng .i64 (quo a b) := by
  have e := quo_nn (a := a) (b := b) ha
  have h1 := Int.ediv_nonneg ha (show 0 ≤ b by omega)
  have h2 := Int.ediv_le_self b ha
  rw [e]
  exact ⟨by omega, by omega⟩
/-- An image as it should be. -/
structure ImOk (w k : Nat) (P : List Int) : Prop where
  w1 : 1 ≤ w ∧ w ≤ 1024
  k1 : 1 ≤ k ∧ k ≤ 1024
  len : P.length = w * k
  byte : ∀ i, i < P.length → 0 ≤ P.getD i 0 ∧ P.getD i 0 ≤ 255
theorem wk_bd {w k : Nat} (hw : 1 ≤ w ∧ w ≤ 1024) (hk : 1 ≤ k ∧ k ≤ 1024) : 1 ≤ w * k ∧ w * k ≤ 1048576 := by
  have h1 : 1 * 1 ≤ w * k := Nat.mul_le_mul hw.1 hk.1
  have h2 : w * k ≤ 1024 * 1024 := Nat.mul_le_mul hw.2 hk.2
  omega
theorem byte0 {P : List Int} (h : ∀ i, i < P.length → 0 ≤ P.getD i 0 ∧ P.getD i 0 ≤ 255) (i : Nat) : 0 ≤ P.getD i 0 ∧ P.getD i 0 ≤ 255 := by
  rcases Nat.lt_or_ge i P.length with h1 | h1
  · exact h i h1
  · have : P.getD i 0 = 0 := by rw [List.getD_eq_getElem?_getD, List.getElem?_eq_none h1]; rfl
    omega

theorem gCheck_y (w k : Nat) (P : List Int) (ok : Due (ImOk w k P)) : TC R Try.prog camera_Check_f [.agg [.int .i64 w, .int .i64 k, .lst Ey P]] [] (fun v X => v = .int .i64 0 ∧ X = []) := by
  have ok : ImOk w k P := ok
  have hw := ok.w1
  have hk := ok.k1
  have hb := wk_bd hw hk
  have hl := ok.len
  have e1 : (w : Int) * (k : Int) = ((w * k : Nat) : Int) := by simp
  refine tc0 env camera_Check_s (by rfl) ?_
  dsimp only [camera_Check_c]
  repeat' (first
    | refine GZy_i_y (And.intro e1 hl) ?_ ?_ ?_ ?_ ?_ ?_ ?_ ?_
    | with_reducible first | exact BzZq.mk | refine Tw.ret ?_ | refine ImZq.i fun h => ?_ | refine IkZq.i fun hk => ?_)
  exact ⟨rfl, rfl, rfl⟩

/-- A view as it should be. -/
structure ViOk (s x y t b l d : Int) (N : List Int) : Prop where
  fs : 1 ≤ s ∧ s ≤ 8
  fx : 0 ≤ x ∧ x ≤ 32
  fy : 0 ≤ y ∧ y ≤ 32
  ft : 0 ≤ t ∧ t ≤ 3
  fb : 0 ≤ b ∧ b ≤ 2
  fl : 0 ≤ l ∧ l ≤ 255
  fd : 0 ≤ d ∧ d ≤ 255
  dl : d < l
  fn : N.length ≤ 64 ∧ ∀ i, i < N.length → -64 ≤ N.getD i 0 ∧ N.getD i 0 ≤ 64
theorem view_y (s x y t b l d : Int) (N : List Int) (h : Due (ViOk s x y t b l d N)) :
    TC R Try.prog camera_CheckView_f [.agg [.int .i64 s, .int .i64 x, .int .i64 y, .int .i64 t, .int .i64 b, .int .i64 l, .int .i64 d, .lst Ei N]] [] (fun v X => v = .int .i64 0 ∧ X = []) := by
  have ⟨h1, h2, h3, h4, h5, h6, h7, h8, h9⟩ : ViOk s x y t b l d N := h
  refine tc0 env camera_CheckView_s (by rfl) ?_
  dsimp only [camera_CheckView_c]
  repeat' (first
    | refine GZp_i_y ?_ ?_ ?_ ?_ ?_ ?_ ?_ ?_
    | with_reducible first | exact BzZq.mk | refine Tw.ret ?_ | refine ImZq.i fun h => ?_ | refine IkZq.i fun hk => ?_)
  refine Tw.loopK [81, 82] (fun i : Nat => i ≤ N.length ∧ ∀ j, j < i → -64 ≤ N.getD j 0 ∧ N.getD j 0 ≤ 64) (fun i => N.length - i) (fun i => [(83, .int .i64 i)])
    (fun _ => [some (.cells [.int .i64 s, .int .i64 x, .int .i64 y, .int .i64 t, .int .i64 b, .int .i64 l, .int .i64 d, .lst Ei N])]) ⟨0, ⟨by omega, fun j hj => by omega⟩, TWk.fcanon env [some 0] (by rfl) ?_⟩ (fun i hi => ?_)
  · repeat' (first
      | refine GZ_i_y ?_ ?_ ?_ ?_ ?_ ?_ ?_ ?_
      | with_reducible first | exact BzZq.mk | refine Tw.ret ?_ | refine ImZq.i fun h => ?_ | refine IkZq.i fun hk => ?_)
  obtain ⟨hi, hp⟩ := hi
  rcases Nat.lt_or_ge i N.length with hi2 | hi2
  · have n1 := h9.2 i hi2
    repeat' (first
      | refine GZp_i_y ?_ ?_ ?_ ?_ ?_ ?_ ?_ ?_
      | with_reducible first | exact BzZq.mk | refine Tw.ret ?_ | refine ImZq.i fun h => ?_ | refine IkZq.i fun hk => ?_)
    refine ⟨i + 1, ⟨by omega, fun j hj => h9.2 j (by omega)⟩, by omega, TWk.fcanon env [some 0] (by rfl) ?_⟩
    repeat' (first
      | refine GZ_i_y ?_ ?_ ?_ ?_ ?_ ?_ ?_ ?_
      | with_reducible first | exact BzZq.mk | refine Tw.ret ?_ | refine ImZq.i fun h => ?_ | refine IkZq.i fun hk => ?_)
  · repeat' (first
      | refine GZp_i_y ?_ ?_ ?_ ?_ ?_ ?_ ?_ ?_
      | with_reducible first | exact BzZq.mk | refine Tw.ret ?_ | refine ImZq.i fun h => ?_ | refine IkZq.i fun hk => ?_)
    exact ⟨rfl, rfl, rfl⟩
/-- The sum of m values from the place i on. -/
def rowS (P : List Int) (i m : Nat) : Int := sumN (fun a => P.getD (i + a) 0) m
def winS (w k : Nat) (P : List Int) (x y : Nat) : Int := sumN (fun j => rowS P ((y - 1 + j) * w + (x - 1)) (min (w - 1) (x + 1) + 1 - (x - 1))) (min (k - 1) (y + 1) + 1 - (y - 1))
def winN (w k x y : Nat) : Nat := (min (k - 1) (y + 1) + 1 - (y - 1)) * (min (w - 1) (x + 1) + 1 - (x - 1))
theorem rowS_bd {P : List Int} (h : ∀ i, i < P.length → 0 ≤ P.getD i 0 ∧ P.getD i 0 ≤ 255) (i m : Nat) : 0 ≤ rowS P i m ∧ rowS P i m ≤ 255 * m := sumN_bd fun a _ => byte0 h (i + a)

theorem window_c (w k : Nat) (P : List Int) (x y : Nat) (ok : Due (ImOk w k P)) (hx : Due (x < w)) (hy : Due (y < k)) :
    TC R Try.prog camera_window_f [.pel [.int .i64 w, .int .i64 k, .lst Ey P], .int .i64 x, .int .i64 y, .int .i64 1] [] (fun v X => v = .tup [.int .i64 (winS w k P x y), .int .i64 (winN w k x y)] ∧ X = []) := by
  have ok : ImOk w k P := ok
  have hx : x < w := hx
  have hy : y < k := hy
  have hw := ok.w1
  have hk := ok.k1
  have hl := ok.len
  have hb := ok.byte
  obtain ⟨y0, hy0⟩ : ∃ y0, y0 = y - 1 := ⟨_, rfl⟩
  obtain ⟨x0, hx0⟩ : ∃ x0, x0 = x - 1 := ⟨_, rfl⟩
  obtain ⟨nx, hnx⟩ : ∃ nx, nx = min (w - 1) (x + 1) + 1 - (x - 1) := ⟨_, rfl⟩
  obtain ⟨ny, hny⟩ : ∃ ny, ny = min (k - 1) (y + 1) + 1 - (y - 1) := ⟨_, rfl⟩
  have bnx : nx ≤ 3 ∧ x0 + nx ≤ w ∧ 1 ≤ nx := by omega
  have bny : ny ≤ 3 ∧ y0 + ny ≤ k ∧ 1 ≤ ny := by omega
  have ex0 : max 0 ((x : Int) - 1) = (x0 : Nat) := by omega
  have ey0 : max 0 ((y : Int) - 1) = (y0 : Nat) := by omega
  have ex1 : min ((w : Int) - 1) ((x : Int) + 1) = ((x0 + nx : Nat) : Int) - 1 := by omega
  have ey1 : min ((k : Int) - 1) ((y : Int) + 1) = ((y0 + ny : Nat) : Int) - 1 := by omega
  have S : winS w k P x y = sumN (fun j => rowS P ((y0 + j) * w + x0) nx) ny := by unfold winS; rw [← hnx, ← hny, ← hx0, ← hy0]
  have C : winN w k x y = ny * nx := by unfold winN; rw [← hnx, ← hny]
  rw [S, C]
  have sb : ∀ m, m ≤ ny → 0 ≤ sumN (fun j => rowS P ((y0 + j) * w + x0) nx) m ∧ sumN (fun j => rowS P ((y0 + j) * w + x0) nx) m ≤ 765 * m := fun m _ => sumN_bd fun j _ => by
    have := rowS_bd hb ((y0 + j) * w + x0) nx
    omega
  refine tc0 env camera_window_s (by rfl) ?_
  dsimp only [camera_window_c]
  repeat' (first
    | refine GZy_i_y ey0 ?_ ?_ ?_ ?_ ?_ ?_ ?_ ?_
    | with_reducible first | exact BzZq.mk | refine Tw.ret ?_ | refine ImZq.i fun h => ?_ | refine IkZq.i fun hk => ?_)
  rw [ey0]
  refine Tw.loopK [0, 1, 2, 3] (fun j : Nat => j ≤ ny) (fun j => ny - j) (fun j => [(10, .int .i64 ((y0 + j : Nat) : Int)), (8, .int .i64 (sumN (fun j => rowS P ((y0 + j) * w + x0) nx) j)), (9, .int .i64 ((j * nx : Nat) : Int))])
    (fun _ => []) ⟨0, by omega, TWk.fcanon env [] (by rfl) ?_⟩ (fun j hj => ?_)
  · repeat' (first
      | refine GZ_i_y ?_ ?_ ?_ ?_ ?_ ?_ ?_ ?_
      | with_reducible first | exact BzZq.mk | refine Tw.ret ?_ | refine ImZq.i fun h => ?_ | refine IkZq.i fun hk => ?_)
  have sj := sb j hj
  have nj : j * nx ≤ 3 * 3 := Nat.mul_le_mul (by omega) (by omega)
  rcases Nat.lt_or_ge j ny with hj2 | hj2
  · repeat' (first
      | refine GZy_i_y (And.intro ey1 ex0) ?_ ?_ ?_ ?_ ?_ ?_ ?_ ?_
      | with_reducible first | exact BzZq.mk | refine Tw.ret ?_ | refine ImZq.i fun h => ?_ | refine IkZq.i fun hk => ?_)
    rw [ex0]
    refine Tw.loopK [0, 1, 2, 3, 10] (fun i : Nat => i ≤ nx) (fun i => nx - i) (fun i => [(11, .int .i64 ((x0 + i : Nat) : Int)), (8, .int .i64 (sumN (fun j => rowS P ((y0 + j) * w + x0) nx) j + rowS P ((y0 + j) * w + x0) i)), (9, .int .i64 ((j * nx + i : Nat) : Int))])
      (fun _ => []) ⟨0, by omega, TWk.fcanon env [] (by rfl) ?_⟩ (fun i hi => ?_)
    · repeat' (first
        | exact Int.add_zero _
        | refine GZ_i_y ?_ ?_ ?_ ?_ ?_ ?_ ?_ ?_
        | with_reducible first | exact BzZq.mk | refine Tw.ret ?_ | refine ImZq.i fun h => ?_ | refine IkZq.i fun hk => ?_)
    have ri := rowS_bd hb ((y0 + j) * w + x0) i
    rcases Nat.lt_or_ge i nx with hi2 | hi2
    · have e1 : ((y0 + j : Nat) : Int) * (w : Int) + ((x0 + i : Nat) : Int) = (((y0 + j) * w + x0 + i : Nat) : Int) := by simp; omega
      have hin : (y0 + j) * w + x0 + i < P.length := by
        rw [hl]
        have h1 : (y0 + j + 1) * w ≤ k * w := Nat.mul_le_mul_right _ (by omega)
        rw [Nat.add_mul, Nat.mul_comm k w] at h1
        omega
      have b0 := hb _ hin
      have p0 : -9223372036854775808 ≤ ((y0 + j : Nat) : Int) * (w : Int) ∧ ((y0 + j : Nat) : Int) * (w : Int) ≤ 9223372036854775807 := by
        have h2 := wk_bd hw hk
        have h3 : ((y0 + j : Nat) : Int) * (w : Int) = (((y0 + j) * w : Nat) : Int) := by simp
        omega
      have p1 : -9223372036854775808 ≤ ((y0 + j : Nat) : Int) * (w : Int) + ((x0 + i : Nat) : Int) ∧ ((y0 + j : Nat) : Int) * (w : Int) + ((x0 + i : Nat) : Int) ≤ 9223372036854775807 := by
        have h2 := wk_bd hw hk
        rw [e1]; omega
      have rs : rowS P ((y0 + j) * w + x0) (i + 1) = rowS P ((y0 + j) * w + x0) i + P.getD ((y0 + j) * w + x0 + i) 0 := rfl
      have rs2 : sumN (fun j => rowS P ((y0 + j) * w + x0) nx) j + rowS P ((y0 + j) * w + x0) (i + 1) = sumN (fun j => rowS P ((y0 + j) * w + x0) nx) j + rowS P ((y0 + j) * w + x0) i + P.getD (((y0 + j : Nat) : Int) * (w : Int) + ((x0 + i : Nat) : Int)).toNat (R.d Ey) := by
        rw [e1, Int.toNat_natCast, rs, ← Int.add_assoc]; rfl
      repeat' (first
        | exact p0
        | exact p1
        | refine GZy_i_y (And.intro ex1 e1) ?_ ?_ ?_ ?_ ?_ ?_ ?_ ?_
        | with_reducible first | exact BzZq.mk | refine Tw.ret ?_ | refine ImZq.i fun h => ?_ | refine IkZq.i fun hk => ?_)
      refine ⟨i + 1, by omega, by omega, TWk.fcanon env [] (by rfl) ?_⟩
      repeat' (first
        | exact rs2
        | refine GZ_i_y ?_ ?_ ?_ ?_ ?_ ?_ ?_ ?_
        | with_reducible first | exact BzZq.mk | refine Tw.ret ?_ | refine ImZq.i fun h => ?_ | refine IkZq.i fun hk => ?_)
    · obtain rfl : i = nx := by omega
      have rs : sumN (fun j => rowS P ((y0 + j) * w + x0) i) (j + 1) = sumN (fun j => rowS P ((y0 + j) * w + x0) i) j + rowS P ((y0 + j) * w + x0) i := rfl
      have cs : (((j + 1) * i : Nat) : Int) = ((j * i + i : Nat) : Int) := by rw [Nat.add_mul, Nat.one_mul]
      repeat' (first
        | refine GZy_i_y ex1 ?_ ?_ ?_ ?_ ?_ ?_ ?_ ?_
        | with_reducible first | exact BzZq.mk | refine Tw.ret ?_ | refine ImZq.i fun h => ?_ | refine IkZq.i fun hk => ?_)
      refine ⟨j + 1, by omega, by omega, TWk.fcanon env [] (by rfl) ?_⟩
      repeat' (first
        | exact rs
        | exact cs
        | refine GZ_i_y ?_ ?_ ?_ ?_ ?_ ?_ ?_ ?_
        | with_reducible first | exact BzZq.mk | refine Tw.ret ?_ | refine ImZq.i fun h => ?_ | refine IkZq.i fun hk => ?_)
  · obtain rfl : j = ny := by omega
    repeat' (first
      | refine GZy_i_y ey1 ?_ ?_ ?_ ?_ ?_ ?_ ?_ ?_
      | with_reducible first | exact BzZq.mk | refine Tw.ret ?_ | refine ImZq.i fun h => ?_ | refine IkZq.i fun hk => ?_)
    exact ⟨rfl, rfl, rfl⟩
end Go.Proofs.Ythkilkjngincpaa
namespace Go.Proofs.Ythkilkjngincpaa
open Go Go.Lite
set_option linter.unusedVariables false
set_option linter.unusedSimpArgs false
set_option maxRecDepth 100000
set_option maxHeartbeats 4000000
-- @simp rdi rdy

def mnN (P : List Int) : Nat → Int
  | 0 => P.getD 0 0
  | k + 1 => min (mnN P k) (P.getD k 0)
def mxN (P : List Int) : Nat → Int
  | 0 => P.getD 0 0
  | k + 1 => max (mxN P k) (P.getD k 0)
theorem mn_bd {P : List Int} (h : ∀ i, i < P.length → 0 ≤ P.getD i 0 ∧ P.getD i 0 ≤ 255) : ∀ k, 0 ≤ mnN P k ∧ mnN P k ≤ 255
  | 0 => byte0 h 0
  | k + 1 => by have := mn_bd h k; have := byte0 h k; simp only [mnN]; omega
theorem mx_bd {P : List Int} (h : ∀ i, i < P.length → 0 ≤ P.getD i 0 ∧ P.getD i 0 ≤ 255) : ∀ k, 0 ≤ mxN P k ∧ mxN P k ≤ 255
  | 0 => byte0 h 0
  | k + 1 => by have := mx_bd h k; have := byte0 h k; simp only [mxN]; omega
/-- The pixels that are nearer to the darkest tone. -/
def dark (w : Nat) (P : List Int) (x y : Nat) : Bool := decide (2 * P.getD (y * w + x) 0 < mnN P P.length + mxN P P.length)

theorem split_c (w k : Nat) (P : List Int) (ok : ImOk w k P) :
    TC R Try.prog camera_split_f [.ptr 0 0] [some (.cells [.int .i64 w, .int .i64 k, .lst Ey P])] (fun v X => v = .agg [.int .i64 w, .int .i64 k, .lst Ey (bm w k (dark w P))] ∧ X = [some (.cells [.int .i64 w, .int .i64 k, .lst Ey P])]) := by
  have hw := ok.w1
  have hk := ok.k1
  have hl := ok.len
  have hb := ok.byte
  have wh := wk_bd hw hk
  have b0 := byte0 hb 0
  have bc := blank_c w k hw hk
  rw [bm_congr (g := lin w (dark w P) 0) fun x y _ _ => lin_none.symm] at bc
  have raw : TC R Try.prog camera_split_f [.ptr 0 0] [some (.cells [.int .i64 w, .int .i64 k, .lst Ey P])] (fun v X => v = .agg [.int .i64 w, .int .i64 k, .lst Ey (bm w k (dark w P))] ∧ ∃ a b c, X = [some (.cells [.int .i64 w, .int .i64 k, .lst Ey P]), a, b, c]) := by
   refine tc env camera_split_s (by rfl) ?_
   dsimp only [camera_split_c]
   repeat' (first
     | refine GZp_i_y ?_ ?_ ?_ ?_ ?_ ?_ ?_ ?_
     | with_reducible first | exact BzZq.mk | refine Tw.ret ?_ | refine ImZq.i fun h => ?_ | refine IkZq.i fun hk => ?_)
   refine Tw.loopK [0, 2, 25, 26] (fun m : Nat => m ≤ w * k) (fun m => w * k - m) (fun m => [(27, .int .i64 m), (3, .int .u8 (mnN P m)), (4, .int .u8 (mxN P m))])
     (fun _ => [some (.cells [.int .i64 w, .int .i64 k, .lst Ey P]), some (.cells [.int .i64 0, .int .i64 0, .nils])]) ⟨0, by omega, TWk.fcanon env [some 0, some 1] (by rfl) ?_⟩ (fun m hm => ?_)
   · repeat' (first
       | refine GZ_i_y ?_ ?_ ?_ ?_ ?_ ?_ ?_ ?_
       | with_reducible first | exact BzZq.mk | refine Tw.ret ?_ | refine ImZq.i fun h => ?_ | refine IkZq.i fun hk => ?_)
   have n1 := mn_bd hb m
   have n2 := mx_bd hb m
   have n3 := byte0 hb m
   rcases Nat.lt_or_ge m (w * k) with hm2 | hm2
   · repeat' (first
       | refine GZy_i_y hl ?_ ?_ ?_ ?_ ?_ ?_ ?_ ?_
       | with_reducible first | exact BzZq.mk | refine Tw.ret ?_ | refine ImZq.i fun h => ?_ | refine IkZq.i fun hk => ?_)
     refine ⟨m + 1, by omega, by omega, TWk.fcanon env [some 0, some 1] (by rfl) ?_⟩
     repeat' (first
       | refine GZ_i_y ?_ ?_ ?_ ?_ ?_ ?_ ?_ ?_
       | with_reducible first | exact BzZq.mk | refine Tw.ret ?_ | refine ImZq.i fun h => ?_ | refine IkZq.i fun hk => ?_)
   obtain ⟨M, hM⟩ : ∃ M, M = w * k := ⟨_, rfl⟩
   obtain rfl : m = M := by omega
   rw [← hM] at hl wh ⊢
   repeat' (first
     | ((with_reducible refine TDr.any ?_); refine TDr.callN env (by first | rfl | assumption) (by rfl) (by rfl) ?_ (bc) (by rfl) (by rfl) ?_)
     | refine GZy_i_y hl ?_ ?_ ?_ ?_ ?_ ?_ ?_ ?_
     | with_reducible first | exact BzZq.mk | refine Tw.ret ?_ | refine ImZq.i fun h => ?_ | refine IkZq.i fun hk => ?_)
   refine Tw.loopK [0, 2, 3, 4, 7, 50, 51] (fun i : Nat => i ≤ m) (fun i => m - i) (fun i => [(52, .int .i64 i)])
     (fun i => [some (.cells [.int .i64 w, .int .i64 k, .lst Ey P]), some (.cells [.int .i64 0, .int .i64 0, .nils]), some (.arr Ey (bm w k (lin w (dark w P) i))), some (.cells [.int .i64 w, .int .i64 k, .sla 1 2 0 (st w * k)])]) ⟨0, by omega, TWk.fcanon env [some 0, some 1, some 2, some 3] (by rfl) ?_⟩ (fun i hi => ?_)
   · repeat' (first
       | refine GZ_i_y ?_ ?_ ?_ ?_ ?_ ?_ ?_ ?_
       | with_reducible first | exact BzZq.mk | refine Tw.ret ?_ | refine ImZq.i fun h => ?_ | refine IkZq.i fun hk => ?_)
   rcases Nat.lt_or_ge i m with hi2 | hi2
   · have hx : i % w < w := Nat.mod_lt _ (by omega)
     have hy : i / w < k := Nat.div_lt_of_lt_mul (by omega)
     have r1 : rem (i : Int) w = ((i % w : Nat) : Int) := by rw [rem_nn (by omega)]; omega
     have r2 : quo (i : Int) w = ((i / w : Nat) : Int) := by rw [quo_nn (by omega)]; omega
     have b1 := byte0 hb i
     have ei : i / w * w + i % w = i := by rw [Nat.mul_comm]; exact Nat.div_add_mod i w
     have dk : dark w P (i % w) (i / w) = decide (2 * P.getD i 0 < mnN P m + mxN P m) := by unfold dark; rw [ei, hl]
     by_cases hq : 2 * P.getD i 0 < mnN P m + mxN P m
     · have hg : dark w P (i % w) (i / w) = true := by rw [dk]; exact decide_eq_true hq
       have hbd := bm_bd (w := w) (h := k) (f := lin w (dark w P) i) (at8_lt hx hy)
       have hbl := bm_len (w := w) (h := k) (f := lin w (dark w P) i)
       have hmk := bm_mark (f := lin w (dark w P) i) hx hy
       have mc := mark_c w k (bm w k (lin w (dark w P) i)) (i % w) (i / w) hw hk hbl hbd hx hy
       rw [hmk] at mc
       rw [bm_congr (f := fun x y => lin w (dark w P) i x y || (decide (x = i % w) && decide (y = i / w))) fun x y hx _ => lin_yes (by omega) hg hx] at mc
       have rq : rng .i64 (quo (i : Int) w) := quo_rng (by omega) (by omega) (by omega)
       repeat' (first
         | ((with_reducible refine TDr.any ?_); refine TDr.callHD env [3, 2] (mc) (by first | rfl | assumption) (by rfl) (by rfl) (by rfl) (by rfl) (by rfl) (fun _ => by rfl) (fun _ => by repeat' (first | exact trivial | refine ⟨rfl, ?_⟩)) (fun _ => by rfl) (fun _ => by rfl) ?_)
         | exact rq
         | exact rq.1
         | exact rq.2
         | refine GZy_i_y (And.intro hl (And.intro r1 r2)) ?_ ?_ ?_ ?_ ?_ ?_ ?_ ?_
         | with_reducible first | exact BzZq.mk | refine Tw.ret ?_ | refine ImZq.i fun h => ?_ | refine IkZq.i fun hk => ?_)
       refine ⟨i + 1, by omega, by omega, TWk.fcanon env [some 0, some 1, some 2, some 3] (by rfl) ?_⟩
       repeat' (first
         | refine GZ_i_y ?_ ?_ ?_ ?_ ?_ ?_ ?_ ?_
         | with_reducible first | exact BzZq.mk | refine Tw.ret ?_ | refine ImZq.i fun h => ?_ | refine IkZq.i fun hk => ?_)
     · have hg : dark w P (i % w) (i / w) = false := by rw [dk]; exact decide_eq_false hq
       rw [bm_congr fun x y hx _ => lin_no (by omega) hg hx]
       repeat' (first
         | refine GZy_i_y hl ?_ ?_ ?_ ?_ ?_ ?_ ?_ ?_
         | with_reducible first | exact BzZq.mk | refine Tw.ret ?_ | refine ImZq.i fun h => ?_ | refine IkZq.i fun hk => ?_)
       refine ⟨i + 1, by omega, by omega, TWk.fcanon env [some 0, some 1, some 2, some 3] (by rfl) ?_⟩
       repeat' (first
         | refine GZ_i_y ?_ ?_ ?_ ?_ ?_ ?_ ?_ ?_
         | with_reducible first | exact BzZq.mk | refine Tw.ret ?_ | refine ImZq.i fun h => ?_ | refine IkZq.i fun hk => ?_)
   obtain rfl : i = m := by omega
   have eA : bm w k (lin w (dark w P) i) = bm w k (dark w P) := by
     rw [hM]; exact bm_congr fun x y hx hy => lin_all hx hy
   rw [eA]
   have hbl := bm_len (w := w) (h := k) (f := dark w P)
   repeat' (first
     | ((with_reducible refine Tw.retI ?_); refine Tw.frz env 2 (by rfl) (by rfl) (by rfl) ?_ ?_ (Tw.ret ?_))
     | exact hbl
     | refine GZy_i_y hl ?_ ?_ ?_ ?_ ?_ ?_ ?_ ?_
     | with_reducible first | exact BzZq.mk | refine Tw.ret ?_ | refine ImZq.i fun h => ?_ | refine IkZq.i fun hk => ?_)
   rw [cut_all hbl.symm]
   exact ⟨rfl, _, _, _, rfl⟩
  refine raw.wk fun v X h => ?_
  obtain ⟨rfl, a', b', c', rfl⟩ := h
  refine ⟨_, [some (.cells [.int .i64 w, .int .i64 k, .lst Ey P])], TWk.fcanon env [some 0] (F' := [(0, .agg [.int .i64 w, .int .i64 k, .lst Ey (bm w k (dark w P))])]) (by rfl) ?_, rfl, rfl⟩
  repeat' (first
    | refine GZ_i_y ?_ ?_ ?_ ?_ ?_ ?_ ?_ ?_
    | with_reducible first | exact BzZq.mk | refine Tw.ret ?_ | refine ImZq.i fun h => ?_ | refine IkZq.i fun hk => ?_)

end Go.Proofs.Ythkilkjngincpaa
