/- Bitmaps put together byte by byte. -/
import Derived.Test.YtcehapmkhlmgdaaBits2
import Derived.Test.YtcehapmkhlmgdaaPop
import Derived.Test.YtcehapmkhlmgdaaGo
namespace Go.Proofs.Ytcehapmkhlmgdaa
open Go Go.Lite
set_option linter.unusedVariables false
set_option linter.unusedSimpArgs false
set_option maxRecDepth 100000
set_option maxHeartbeats 4000000
-- @simp rdi rdy

def bmin (p q : Int) : Int := IntKind.wrap .u8 ((BitVec.ofInt 8 p &&& ~~~ BitVec.ofInt 8 q).toNat : Int)
theorem bmin_nat {p q : Int} (hp : 0 ≤ p ∧ p ≤ 255) (hq : 0 ≤ q ∧ q ≤ 255) : 0 ≤ bmin p q ∧ bmin p q ≤ 255 ∧ ∀ b, b < 8 → bt (bmin p q) b = (bt p b && !bt q b) := by
  obtain ⟨m, rfl⟩ : ∃ m : Nat, p = m := ⟨p.toNat, by omega⟩
  obtain ⟨n, rfl⟩ : ∃ n : Nat, q = n := ⟨q.toNat, by omega⟩
  have e : bmin (m : Int) (n : Int) = ((BitVec.ofNat 8 m &&& ~~~ BitVec.ofNat 8 n).toNat : Int) := by
    unfold bmin
    rw [BitVec.ofInt_natCast, BitVec.ofInt_natCast]
    have := (BitVec.ofNat 8 m &&& ~~~ BitVec.ofNat 8 n).isLt
    exact wrap_rng (k := .u8) (by simp only [rng]; omega)
  have hlt := (BitVec.ofNat 8 m &&& ~~~ BitVec.ofNat 8 n).isLt
  refine ⟨by rw [e]; omega, by rw [e]; omega, fun b hb => ?_⟩
  rw [e]
  unfold bt
  rw [Int.toNat_natCast, Int.toNat_natCast, Int.toNat_natCast, BitVec.testBit_toNat, BitVec.getLsbD_and, BitVec.getLsbD_not, BitVec.getLsbD_ofNat, BitVec.getLsbD_ofNat]
  simp [show 7 - b < 8 by omega]
theorem minus1_c (p q : Int) : TC R Try.prog bitmap_Minus_1_f [.int .u8 p, .int .u8 q] [] (fun v X => v = .int .u8 (bmin p q) ∧ X = []) :=
  .ev (n := 50) (d := 5) env (find_ok _ tbl_bitmap_ok) (by rfl)
def mg (op : Int → Int → Int) (a b : List Int) : List Int := tab a.length fun i => op (a.getD i 0) (b.getD i 0)
def mgTo (op : Int → Int → Int) (a b : List Int) (i : Nat) : List Int := tab a.length fun j => if j < i then op (a.getD j 0) (b.getD j 0) else 0
theorem mgTo_len {op : Int → Int → Int} {a b : List Int} {i : Nat} : (mgTo op a b i).length = a.length := tab_len
theorem mgTo_zero {op : Int → Int → Int} {a b : List Int} : mgTo op a b 0 = List.replicate a.length 0 := by
  refine ext_getD 0 (by simp [mgTo_len]) fun j hj => ?_
  rw [mgTo_len] at hj
  unfold mgTo
  rw [tab_get hj, if_neg (by omega)]
  simp [List.getD, hj]
theorem mgTo_step {op : Int → Int → Int} {a b : List Int} {i : Nat} (hi : i < a.length) : (mgTo op a b i).set i (op (a.getD i 0) (b.getD i 0)) = mgTo op a b (i + 1) := by
  refine ext_getD 0 (by simp [mgTo_len]) fun j hj => ?_
  rw [List.length_set, mgTo_len] at hj
  by_cases e : i = j
  · subst e
    rw [getD_set_eq (by rw [mgTo_len]; exact hi)]
    unfold mgTo
    rw [tab_get hi, if_pos (by omega)]
  · rw [getD_set_ne e]
    unfold mgTo
    rw [tab_get hj, tab_get hj]
    by_cases h : j < i
    · rw [if_pos h, if_pos (by omega)]
    · rw [if_neg h, if_neg (by omega)]
theorem mgTo_all {op : Int → Int → Int} {a b : List Int} : mgTo op a b a.length = mg op a b := by
  refine ext_getD 0 (by rw [mgTo_len]; unfold mg; rw [tab_len]) fun j hj => ?_
  rw [mgTo_len] at hj
  unfold mgTo mg
  rw [tab_get hj, tab_get hj, if_pos hj]
theorem mMinus_c (w k : Nat) (a b : List Int) (oa : BmOk w k a) (ob : BmOk w k b) :
    TC R Try.prog bitmap_merge_f [.agg [.int .i64 w, .int .i64 k, .lst Ey a], .agg [.int .i64 w, .int .i64 k, .lst Ey b], .fn bitmap_Minus_1_f []] [] (fun v X => v = .tup [.agg [.int .i64 w, .int .i64 k, .lst Ey (mg bmin a b)], .int .i64 0] ∧ X = []) := by
  have hlb := len_bd oa.w1 oa.h1
  have la := oa.len
  have lb := ob.len
  have c1 := bCheck_y w k a oa
  have c2 := bCheck_y w k b ob
  have bc := blank_c w k oa.w1 oa.h1
  rw [bm_blank, ← la, ← mgTo_zero (op := bmin) (a := a) (b := b)] at bc
  refine tc0 env bitmap_merge_s (by rfl) ?_
  dsimp only [bitmap_merge_c]
  repeat' (first
    | ((with_reducible refine TOps.any ?_); refine TOps.callE env (by rfl) (by rfl) (by rfl) ?_ (c1) (by rfl) ?_)
    | ((with_reducible refine TOps.any ?_); refine TOps.callE env (by rfl) (by rfl) (by rfl) ?_ (c2) (by rfl) ?_)
    | ((with_reducible refine TOps.any ?_); refine TOps.callV env (by rfl) (by rfl) (by rfl) (bc) ?_)
    | refine GZp_i_y ?_ ?_ ?_ ?_ ?_ ?_ ?_ ?_
    | with_reducible first | exact BzZq.mk | refine Tw.ret ?_ | refine ImZq.i fun h => ?_ | refine IkZq.i fun hk => ?_)
  refine Tw.loopK [45, 44, 10, 6, 4, 2] (fun i : Nat => i ≤ a.length) (fun i => a.length - i) (fun i => [(46, .int .i64 i)])
    (fun i => [some (.cells [.int .i64 w, .int .i64 k, .lst Ey a]), some (.cells [.int .i64 w, .int .i64 k, .lst Ey b]), some (.cells [.int .i64 0, .int .i64 0, .nils]), some (.arr Ey (mgTo bmin a b i)), some (.cells [.int .i64 w, .int .i64 k, .sla 1 3 0 a.length])])
    ⟨0, by omega, TWk.fcanon env [some 0, some 1, some 2, some 3, some 4] (by rfl) ?_⟩ (fun i hi => ?_)
  · repeat' (first
      | refine GZ_i_y ?_ ?_ ?_ ?_ ?_ ?_ ?_ ?_
      | with_reducible first | exact BzZq.mk | refine Tw.ret ?_ | refine ImZq.i fun h => ?_ | refine IkZq.i fun hk => ?_)
  have hml := mgTo_len (op := bmin) (a := a) (b := b) (i := i)
  rcases Nat.lt_or_ge i a.length with hi | hi
  · have ba := oa.byte i hi
    have bb := ob.byte i (by omega)
    have fc := minus1_c (a.getD i 0) (b.getD i 0)
    have st := mgTo_step (op := bmin) (a := a) (b := b) hi
    repeat' (first
      | ((with_reducible refine TDr.any ?_); refine TDr.callE env (by first | rfl | assumption) (by rfl) (by rfl) ?_ (fc) (by rfl) (by rfl) ?_)
      | refine GZp_i_y ?_ ?_ ?_ ?_ ?_ ?_ ?_ ?_
      | with_reducible first | exact BzZq.mk | refine Tw.ret ?_ | refine ImZq.i fun h => ?_ | refine IkZq.i fun hk => ?_)
    refine ⟨i + 1, by omega, by omega, TWk.fcanon env [some 0, some 1, some 2, some 3, some 4] (by rfl) ?_⟩
    repeat' (first
      | exact st.symm
      | refine GZ_i_y ?_ ?_ ?_ ?_ ?_ ?_ ?_ ?_
      | with_reducible first | exact BzZq.mk | refine Tw.ret ?_ | refine ImZq.i fun h => ?_ | refine IkZq.i fun hk => ?_)
  · obtain rfl : i = a.length := by omega
    rw [mgTo_all] at hml ⊢
    repeat' (first
      | ((with_reducible refine Tw.retI ?_); refine Tw.frz env 3 (by rfl) (by rfl) (by rfl) ?_ ?_ (Tw.ret ?_))
      | refine GZp_i_y ?_ ?_ ?_ ?_ ?_ ?_ ?_ ?_
      | with_reducible first | exact BzZq.mk | refine Tw.ret ?_ | refine ImZq.i fun h => ?_ | refine IkZq.i fun hk => ?_)
    rw [cut_all hml.symm]
    exact ⟨rfl, rfl, rfl⟩

theorem bmMinus_c (w k : Nat) (a b : List Int) (oa : BmOk w k a) (ob : BmOk w k b) :
    TC R Try.prog bitmap_Minus_f [.agg [.int .i64 w, .int .i64 k, .lst Ey a], .agg [.int .i64 w, .int .i64 k, .lst Ey b]] [] (fun v X => v = .tup [.agg [.int .i64 w, .int .i64 k, .lst Ey (mg bmin a b)], .int .i64 0] ∧ X = []) := by
  have mc := mMinus_c w k a b oa ob
  refine tc0 env bitmap_Minus_s (by rfl) ?_
  dsimp only [bitmap_Minus_c]
  repeat' (first
    | ((with_reducible refine TOps.any ?_); refine TOps.callV env (by rfl) (by rfl) (by rfl) (mc) ?_)
    | refine GZp_i_y ?_ ?_ ?_ ?_ ?_ ?_ ?_ ?_
    | with_reducible first | exact BzZq.mk | refine Tw.ret ?_ | refine ImZq.i fun h => ?_ | refine IkZq.i fun hk => ?_)
  exact ⟨rfl, rfl, rfl⟩
/-- Put together byte by byte is put together pixel by pixel. -/
theorem mg_bm {op : Int → Int → Int} {h : Bool → Bool → Bool} (h0 : h false false = false) (ho : ∀ u v : Int, 0 ≤ u ∧ u ≤ 255 → 0 ≤ v ∧ v ≤ 255 → 0 ≤ op u v ∧ op u v ≤ 255 ∧ ∀ b, b < 8 → bt (op u v) b = h (bt u b) (bt v b))
    {w k : Nat} {f g : Nat → Nat → Bool} : mg op (bm w k f) (bm w k g) = bm w k fun x y => h (f x y) (g x y) := by
  refine ext_getD 0 (by unfold mg; rw [tab_len, bm_len, bm_len]) fun i hi => ?_
  have hi2 : i < st w * k := by unfold mg at hi; rwa [tab_len, bm_len] at hi
  unfold mg
  rw [tab_get (by rw [bm_len]; exact hi2), bm_get hi2, bm_get hi2, bm_get hi2]
  obtain ⟨o1, o2, o3⟩ := ho _ _ (bmB_bd w f i) (bmB_bd w g i)
  refine byte_ext ⟨o1, o2⟩ (bmB_bd _ _ _) fun b hb => ?_
  rw [o3 b hb, bmB_bit hb, bmB_bit hb, bmB_bit hb]
  cases decide (8 * (i % st w) + b < w) <;> simp [h0]
theorem mg_minus {w k : Nat} {f g : Nat → Nat → Bool} : mg bmin (bm w k f) (bm w k g) = bm w k fun x y => f x y && !g x y :=
  mg_bm (h := fun p q => p && !q) rfl fun u v hu hv => by
    obtain ⟨h1, h2, h3⟩ := bmin_nat hu hv
    exact ⟨h1, h2, h3⟩
end Go.Proofs.Ytcehapmkhlmgdaa
