/- Matrix codes: Decode. -/
import Derived.Test.YthkilkjngincpaaMtx2
import Derived.Test.YthkilkjngincpaaMtx3
import Derived.Test.YthkilkjngincpaaGo
namespace Go.Proofs.Ythkilkjngincpaa
open Go Go.Lite
set_option linter.unusedVariables false
set_option linter.unusedSimpArgs false
set_option maxRecDepth 100000
set_option maxHeartbeats 4000000
-- @simp rdi rdy

/-- The module of number k inside the border. -/
def mIn (s : Nat) (f : Nat → Nat → Bool) (k : Nat) : Bool := f (1 + k % (s - 2)) (1 + k / (s - 2))
/-- The bytes of the modules inside the border. -/
def mGot (s : Nat) (f : Nat → Nat → Bool) (k : Nat) : List Int := bm (8 * mAll s) 1 fun i _ => decide (i < k) && mIn s f i
theorem mGot_len (s : Nat) (f : Nat → Nat → Bool) (k : Nat) : (mGot s f k).length = mAll s := by
  unfold mGot; rw [bm_len]; unfold st; omega
theorem mGot_zero (s : Nat) (f : Nat → Nat → Bool) : mGot s f 0 = List.replicate (mAll s) 0 := by
  unfold mGot
  have : bm (8 * mAll s) 1 (fun i _ => decide (i < 0) && mIn s f i) = bm (8 * mAll s) 1 (fun _ _ => false) := bm_congr fun x y _ _ => by simp
  rw [this, bm_blank]
  congr 1; unfold st; omega
theorem mGot_no {s : Nat} {f : Nat → Nat → Bool} {k : Nat} (h : 8 * mAll s ≤ k ∨ mIn s f k = false) : mGot s f (k + 1) = mGot s f k := by
  refine bm_congr fun x y hx hy => ?_
  by_cases e : x = k
  · subst e
    rcases h with h | h
    · omega
    · rw [h]; simp
  · rw [decide_eq_decide.2 (show x < k + 1 ↔ x < k by omega)]
theorem mGot_yes {s : Nat} {f : Nat → Nat → Bool} {k : Nat} (h1 : k < 8 * mAll s) (h2 : mIn s f k = true) : (mGot s f k).set (k / 8) (bor ((mGot s f k).getD (k / 8) 0) ((128 : Int) / 2 ^ (k % 8))) = mGot s f (k + 1) := by
  have hm := bm_mark (w := 8 * mAll s) (h := 1) (f := fun i _ => decide (i < k) && mIn s f i) (x := k) (y := 0) h1 (by omega)
  have ea : at8 (8 * mAll s) k 0 = k / 8 := by unfold at8; omega
  rw [ea] at hm
  unfold mGot
  rw [hm]
  refine bm_congr fun x y hx hy => ?_
  have hy : y = 0 := by omega
  subst hy
  by_cases e : x = k
  · subst e; rw [h2]; simp
  · have e2 : decide (x < k + 1) = decide (x < k) := decide_eq_decide.2 (by omega)
    rw [decide_eq_false e, e2]; simp
theorem mGot_all {s : Nat} {f : Nat → Nat → Bool} (h : 8 * mAll s ≤ (s - 2) * (s - 2)) : mGot s f ((s - 2) * (s - 2)) = bm (8 * mAll s) 1 fun i _ => mIn s f i :=
  bm_congr fun x y hx hy => by rw [decide_eq_true (by omega), Bool.true_and]
theorem mCnt_all {s : Nat} (hs : 8 ≤ s) : mCnt s 0 s = (s - 2) * (s - 2) := by
  unfold mCnt
  rw [if_neg (by omega), show min (s - 1) (s - 2) = s - 2 by omega, Nat.add_zero]
theorem mIn_at {s x y : Nat} (f : Nat → Nat → Bool) (hs : 8 ≤ s) (hx : x < s) (hy : y < s) (h : mBord s x y = false) : mIn s f (mCnt s x y) = f x y := by
  obtain ⟨c1, _⟩ := mCnt_in hs hx hy h
  obtain ⟨h1, h2, h3, h4⟩ := mBord_iff.1 h
  unfold mIn
  rw [c1, Nat.mul_comm, Nat.mul_add_mod, Nat.mod_eq_of_lt (by omega), Nat.mul_add_div (by omega), Nat.div_eq_of_lt (by omega)]
  congr 1 <;> omega
theorem mGot_bd {s : Nat} {f : Nat → Nat → Bool} {k i : Nat} (h : i < mAll s) : 0 ≤ (mGot s f k).getD i 0 ∧ (mGot s f k).getD i 0 ≤ 255 := bm_bd (by unfold st; omega)
/-- Decode, where the word that is read is found to be L. -/
theorem mDecode_c (s : Nat) (D : List Int) (L : List Int) (fix : Nat) (n : Nat) (hs : Due (Side s)) (ok : Due (BmOk s s D)) (hw : Due ((mBest s D 4).2 ≤ (s : Int) / 4))
    (rd : TC R Try.prog reedsolomon_Decode_f [.lst Ey (bm (8 * mAll s) 1 fun i _ => mIn s (mPix s D (mBest s D 4).1) i), .int .i64 (mPar s : Nat), .nils] [] (fun v X => v = .tup [.lst Ey L, .int .i64 fix, .int .i64 0] ∧ X = []))
    (hL : Due (L.length = mAll s)) (hn : Due (L.getD 0 0 = n)) (hn2 : Due (n + mPar s + 1 ≤ mAll s)) (hz : ∀ i, 1 + n ≤ i → i < mAll s - mPar s → L.getD i 0 = 0) :
    TC R Try.prog matrix_Decode_f [.agg [.int .i64 s, .int .i64 s, .lst Ey D]] [] (fun v X => v = .tup [.lst Ey (cut L 1 n), .int .i64 fix, .int .i64 (mBest s D 4).1, .int .i64 0] ∧ X = []) := by
  have sc := size_c s hs
  have sd := isSide_c s hs
  have sf := Side.facts hs
  have hb := hs.bd
  dsimp only [Due] at hs ok hw hL hn hn2
  have cc := bCheck_y s s D ok
  have bc := mBorder_c s D ok (by unfold Due; omega)
  obtain ⟨bb1, bb2, bb3⟩ := mBest_bd s D hb.2 4 (by omega)
  obtain ⟨wr, hwr⟩ : ∃ wr : Nat, (mBest s D 4).2 = wr := ⟨(mBest s D 4).2.toNat, by omega⟩
  rw [hwr] at bc hw
  have q4 : quo (s : Int) 4 = (s : Int) / 4 := by rw [quo_nn (by omega)]
  generalize hk : (mBest s D 4).1 = k at *
  refine tc0 env matrix_Decode_s (by rfl) ?_
  dsimp only [matrix_Decode_c]
  have tc := turned_c s s D k ok (by omega)
  obtain ⟨q1, q2⟩ := trn_sq s D k
  have okT : BmOk s s (trn (s, s, D) k).2.2 := by have := trn_ok (t := (s, s, D)) ok k; unfold Ok3 at this; rw [q1, q2] at this; exact this
  unfold enT at tc
  rw [q1, q2] at tc
  have eP : mPix s D k = fun x y : Nat => px s s (trn (s, s, D) k).2.2 x y := rfl
  generalize hT : (trn (s, s, D) k).2.2 = T at *
  generalize hF : mPix s D k = f at *
  have gl := mGot_len s f
  have s2 : 8 * mAll s ≤ (s - 2) * (s - 2) := by unfold mAll; omega
  have hA : mAll s = (s - 2) * (s - 2) / 8 := rfl
  have ga := mGot_all (f := f) s2
  generalize hAA : mAll s = A at *
  generalize hPP : mPar s = P at *
  repeat' (first
    | ((with_reducible refine TOps.any ?_); refine TOps.callE env (by rfl) (by rfl) (by rfl) ?_ (cc) (by rfl) ?_)
    | ((with_reducible refine TOps.any ?_); refine TOps.callV env (by rfl) (by rfl) (by rfl) (sd) ?_)
    | ((with_reducible refine TOps.any ?_); refine TOps.callHE env [0] (bc) (by rfl) (by rfl) (by rfl) (by rfl) (by rfl) (by rfl) (by repeat' (first | exact trivial | refine ⟨rfl, ?_⟩)) ?_)
    | ((with_reducible refine TOps.any ?_); refine TOps.callHE env [0] (tc) (by rfl) (by rfl) (by rfl) (by rfl) (by rfl) (by rfl) (by repeat' (first | exact trivial | refine ⟨rfl, ?_⟩)) ?_)
    | ((with_reducible refine TOps.any ?_); refine TOps.callV env (by rfl) (by rfl) (by rfl) (sc) ?_)
    | refine GZy_i_y q4 ?_ ?_ ?_ ?_ ?_ ?_ ?_ ?_
    | with_reducible first | exact BzZq.mk | refine Tw.ret ?_ | refine ImZq.i fun h => ?_ | refine IkZq.i fun hk => ?_)
  refine Tw.loopK [4, 9, 10, 11, 60] (fun y : Nat => y ≤ s) (fun y => s - y) (fun y => [(61, .int .i64 y), (14, .int .i64 (mCnt s 0 y : Nat)), (8, .ptr 0 0), (13, .sla 1 1 0 A)])
    (fun y => [some (.cells [.int .i64 s, .int .i64 s, .lst Ey T]), some (.arr Ey (mGot s f (mCnt s 0 y)))]) ⟨0, by omega, TWk.fcanon env [some 1, some 2] (by rfl) ?_⟩ (fun y hy => ?_)
  · have z := congrArg (fun n : Nat => (n : Int)) (mCnt_zero hb)
    have z2 : mGot s f (mCnt s 0 0) = List.replicate A 0 := by rw [mCnt_zero hb, mGot_zero, hAA]
    repeat' (first
      | exact z.symm
      | exact z
      | exact z2
      | exact z2.symm
      | refine GZ_i_y ?_ ?_ ?_ ?_ ?_ ?_ ?_ ?_
      | with_reducible first | exact BzZq.mk | refine Tw.ret ?_ | refine ImZq.i fun h => ?_ | refine IkZq.i fun hk => ?_)
  rcases Nat.lt_or_ge y s with hy | hy
  · repeat' (first
      | refine GZp_i_y ?_ ?_ ?_ ?_ ?_ ?_ ?_ ?_
      | with_reducible first | exact BzZq.mk | refine Tw.ret ?_ | refine ImZq.i fun h => ?_ | refine IkZq.i fun hk => ?_)
    refine Tw.loopK [4, 8, 9, 10, 11, 13, 15, 60, 61, 65] (fun x : Nat => x ≤ s) (fun x => s - x) (fun x => [(66, .int .i64 x), (14, .int .i64 (mCnt s x y : Nat))])
      (fun x => [some (.cells [.int .i64 s, .int .i64 s, .lst Ey T]), some (.arr Ey (mGot s f (mCnt s x y)))]) ⟨0, by omega, TWk.fcanon env [some 0, some 1] (by rfl) ?_⟩ (fun x hx => ?_)
    · repeat' (first
        | refine GZ_i_y ?_ ?_ ?_ ?_ ?_ ?_ ?_ ?_
        | with_reducible first | exact BzZq.mk | refine Tw.ret ?_ | refine ImZq.i fun h => ?_ | refine IkZq.i fun hk => ?_)
    rcases Nat.lt_or_ge x s with hx | hx
    · have dc := dark_c s x y (by unfold Due; omega) hx hy
      have ic := is_c s s T x y okT
      have fe : px s s T x y = f x y := by rw [eP]
      rw [fe] at ic
      have cb := mCnt_bd (s := s) (x := x) (y := y) hb
      cases hB : mBord s x y with
      | true =>
        rw [hB] at dc
        have cn := mCnt_out (s := s) (by omega) hx hy hB
        repeat' (first
          | ((with_reducible refine TOps.any ?_); refine TOps.callV env (by rfl) (by rfl) (by rfl) (dc) ?_)
          | refine GZp_i_y ?_ ?_ ?_ ?_ ?_ ?_ ?_ ?_
          | with_reducible first | exact BzZq.mk | refine Tw.ret ?_ | refine ImZq.i fun h => ?_ | refine IkZq.i fun hk => ?_)
        refine ⟨x + 1, by omega, by omega, TWk.fcanon env [some 0, some 1] (by rfl) ?_⟩
        rw [cn]
        repeat' (first
          | refine GZ_i_y ?_ ?_ ?_ ?_ ?_ ?_ ?_ ?_
          | with_reducible first | exact BzZq.mk | refine Tw.ret ?_ | refine ImZq.i fun h => ?_ | refine IkZq.i fun hk => ?_)
      | false =>
        rw [hB] at dc
        have c2 := (mCnt_in (s := s) (by omega) hx hy hB).2
        have fi := mIn_at f (by omega) hx hy hB
        generalize mCnt s x y = m at *
        rw [← fi] at ic
        have u1 : quo (m : Int) 8 = ((m / 8 : Nat) : Int) := by rw [quo_nn (by omega)]; omega
        have u2 : rem (m : Int) 8 = ((m % 8 : Nat) : Int) := by rw [rem_nn (by omega)]; omega
        cases hI : mIn s f m with
        | true =>
          rw [hI] at ic
          by_cases hm : m < 8 * A
          · have gy := mGot_yes (f := f) (by rw [hAA]; exact hm) hI
            have gb : 0 ≤ (mGot s f m).getD ((quo (m : Int) 8).toNat + 0) 0 ∧ (mGot s f m).getD ((quo (m : Int) 8).toNat + 0) 0 ≤ 255 := by rw [u1, Int.toNat_natCast, Nat.add_zero]; exact mGot_bd (by omega)
            have pb : (0 : Int) ≤ 128 / 2 ^ (rem (m : Int) 8).toNat ∧ (128 : Int) / 2 ^ (rem (m : Int) 8).toNat ≤ 255 := by
              have h2 : (0 : Int) < 2 ^ (rem (m : Int) 8).toNat := Int.pow_pos (by omega)
              exact ⟨Int.ediv_nonneg (by omega) (by omega), Int.le_trans (Int.ediv_le_self _ (by omega)) (by omega)⟩
            have gb2 : rng .u8 ((mGot s f m).getD ((quo (m : Int) 8).toNat + 0) 0) := by simp only [rng]; omega
            have pb2 : rng .u8 ((128 : Int) / 2 ^ (rem (m : Int) 8).toNat) := by simp only [rng]; omega
            rw [show m / 8 = (quo (m : Int) 8).toNat + 0 by rw [u1, Int.toNat_natCast, Nat.add_zero], show m % 8 = (rem (m : Int) 8).toNat by rw [u2, Int.toNat_natCast]] at gy
            repeat' (first
              | ((with_reducible refine TOps.any ?_); refine TOps.callV env (by rfl) (by rfl) (by rfl) (dc) ?_)
              | ((with_reducible refine TOps.any ?_); refine TOps.callE env (by rfl) (by rfl) (by rfl) ?_ (ic) (by rfl) ?_)
              | exact gb.1
              | exact pb.1
              | exact gb2
              | exact pb2
              | refine GZy_i_y (And.intro u1 (And.intro u2 gl)) ?_ ?_ ?_ ?_ ?_ ?_ ?_ ?_
              | with_reducible first | exact BzZq.mk | refine Tw.ret ?_ | refine ImZq.i fun h => ?_ | refine IkZq.i fun hk => ?_)
            refine ⟨x + 1, by omega, by omega, TWk.fcanon env [some 0, some 1] (by rfl) ?_⟩
            rw [c2, ← gy]
            repeat' (first
              | refine GZ_i_y ?_ ?_ ?_ ?_ ?_ ?_ ?_ ?_
              | with_reducible first | exact BzZq.mk | refine Tw.ret ?_ | refine ImZq.i fun h => ?_ | refine IkZq.i fun hk => ?_)
          · have gn := mGot_no (s := s) (f := f) (k := m) (Or.inl (by rw [hAA]; omega))
            repeat' (first
              | ((with_reducible refine TOps.any ?_); refine TOps.callV env (by rfl) (by rfl) (by rfl) (dc) ?_)
              | ((with_reducible refine TOps.any ?_); refine TOps.callE env (by rfl) (by rfl) (by rfl) ?_ (ic) (by rfl) ?_)
              | refine GZy_i_y (And.intro u1 (And.intro u2 gl)) ?_ ?_ ?_ ?_ ?_ ?_ ?_ ?_
              | with_reducible first | exact BzZq.mk | refine Tw.ret ?_ | refine ImZq.i fun h => ?_ | refine IkZq.i fun hk => ?_)
            refine ⟨x + 1, by omega, by omega, TWk.fcanon env [some 0, some 1] (by rfl) ?_⟩
            rw [c2, gn]
            repeat' (first
              | refine GZ_i_y ?_ ?_ ?_ ?_ ?_ ?_ ?_ ?_
              | with_reducible first | exact BzZq.mk | refine Tw.ret ?_ | refine ImZq.i fun h => ?_ | refine IkZq.i fun hk => ?_)
        | false =>
          rw [hI] at ic
          have gn := mGot_no (s := s) (f := f) (k := m) (Or.inr hI)
          repeat' (first
            | ((with_reducible refine TOps.any ?_); refine TOps.callV env (by rfl) (by rfl) (by rfl) (dc) ?_)
            | ((with_reducible refine TOps.any ?_); refine TOps.callE env (by rfl) (by rfl) (by rfl) ?_ (ic) (by rfl) ?_)
            | refine GZy_i_y (And.intro u1 (And.intro u2 gl)) ?_ ?_ ?_ ?_ ?_ ?_ ?_ ?_
            | with_reducible first | exact BzZq.mk | refine Tw.ret ?_ | refine ImZq.i fun h => ?_ | refine IkZq.i fun hk => ?_)
          all_goals refine ⟨x + 1, by omega, by omega, TWk.fcanon env [some 0, some 1] (by rfl) ?_⟩
          all_goals rw [c2, gn]
          · repeat' (first
              | refine GZ_i_y ?_ ?_ ?_ ?_ ?_ ?_ ?_ ?_
              | with_reducible first | exact BzZq.mk | refine Tw.ret ?_ | refine ImZq.i fun h => ?_ | refine IkZq.i fun hk => ?_)
          · repeat' (first
              | refine GZ_i_y ?_ ?_ ?_ ?_ ?_ ?_ ?_ ?_
              | with_reducible first | exact BzZq.mk | refine Tw.ret ?_ | refine ImZq.i fun h => ?_ | refine IkZq.i fun hk => ?_)
    · obtain rfl : x = s := by omega
      have cr := mCnt_row (s := x) (by omega) hy
      repeat' (first
        | refine GZp_i_y ?_ ?_ ?_ ?_ ?_ ?_ ?_ ?_
        | with_reducible first | exact BzZq.mk | refine Tw.ret ?_ | refine ImZq.i fun h => ?_ | refine IkZq.i fun hk => ?_)
      refine ⟨y + 1, by omega, by omega, TWk.fcanon env [some 0, some 1] (by rfl) ?_⟩
      rw [cr]
      repeat' (first
        | refine GZ_i_y ?_ ?_ ?_ ?_ ?_ ?_ ?_ ?_
        | with_reducible first | exact BzZq.mk | refine Tw.ret ?_ | refine ImZq.i fun h => ?_ | refine IkZq.i fun hk => ?_)
  · obtain rfl : y = s := by omega
    rw [mCnt_all hb.1, ga]
    have bl : (bm (8 * A) 1 fun i _ => mIn y f i).length = A := by rw [bm_len]; unfold st; omega
    have bq : cut (bm (8 * A) 1 fun i _ => mIn y f i) 0 A = bm (8 * A) 1 fun i _ => mIn y f i := cut_all bl.symm
    rw [← bq] at rd
    repeat' (first
      | refine GZp_i_y ?_ ?_ ?_ ?_ ?_ ?_ ?_ ?_
      | with_reducible first | exact BzZq.mk | refine Tw.ret ?_ | refine ImZq.i fun h => ?_ | refine IkZq.i fun hk => ?_)
    refine TOps.frz env 1 (by rfl) (by rfl) (by rfl) ?_ ?_ ?_
    · repeat' (first
        | refine GZx_i_y bl ?_ ?_ ?_ ?_ ?_ ?_ ?_ ?_
        | with_reducible first | exact BzZq.mk | refine Tw.ret ?_ | refine ImZq.i fun h => ?_ | refine IkZq.i fun hk => ?_)
    · repeat' (first
        | refine GZx_i_y bl ?_ ?_ ?_ ?_ ?_ ?_ ?_ ?_
        | with_reducible first | exact BzZq.mk | refine Tw.ret ?_ | refine ImZq.i fun h => ?_ | refine IkZq.i fun hk => ?_)
    repeat' (first
      | ((with_reducible refine TOps.any ?_); refine TOps.callV env (by rfl) (by rfl) (by rfl) (rd) ?_)
      | refine GZy_i_y (And.intro hn hL) ?_ ?_ ?_ ?_ ?_ ?_ ?_ ?_
      | with_reducible first | exact BzZq.mk | refine Tw.ret ?_ | refine ImZq.i fun h => ?_ | refine IkZq.i fun hk => ?_)
    have hn' : L.getD (Int.toNat 0) (R.d Ey) = n := hn
    rw [hn']
    have t1 : ((A : Int) - (P : Int)).toNat - (1 + (n : Int)).toNat = A - P - (1 + n) := by omega
    have t2 : (1 + (n : Int)).toNat = 1 + n := by omega
    obtain ⟨M, hM⟩ : ∃ M, M = List.take (((A : Int) - (P : Int)).toNat - (1 + (n : Int)).toNat) (List.drop (1 + (n : Int)).toNat L) := ⟨_, rfl⟩
    rw [← hM]
    have Ml : M.length = A - P - (1 + n) := by rw [hM, t1, t2]; simp; omega
    have Mz : ∀ i, i < A - P - (1 + n) → M.getD i 0 = 0 := fun i hi => by
      rw [hM, t1, t2, getD_sub hi]; exact hz _ (by omega) (by omega)
    refine Tw.loopK [3, 4, 9, 10, 13, 19, 124, 125] (fun i : Nat => i ≤ M.length) (fun i => M.length - i) (fun i => [(126, .int .i64 i)])
      (fun i => []) ⟨0, by omega, TWk.fcanon env [] (by rfl) ?_⟩ (fun i hi => ?_)
    · repeat' (first
        | refine GZ_i_y ?_ ?_ ?_ ?_ ?_ ?_ ?_ ?_
        | with_reducible first | exact BzZq.mk | refine Tw.ret ?_ | refine ImZq.i fun h => ?_ | refine IkZq.i fun hk => ?_)
    rcases Nat.lt_or_ge i M.length with hi | hi
    · have mz := Mz i (by omega)
      repeat' (first
        | refine GZy_i_y mz ?_ ?_ ?_ ?_ ?_ ?_ ?_ ?_
        | with_reducible first | exact BzZq.mk | refine Tw.ret ?_ | refine ImZq.i fun h => ?_ | refine IkZq.i fun hk => ?_)
      refine ⟨i + 1, by omega, by omega, TWk.fcanon env [] (by rfl) ?_⟩
      repeat' (first
        | refine GZ_i_y ?_ ?_ ?_ ?_ ?_ ?_ ?_ ?_
        | with_reducible first | exact BzZq.mk | refine Tw.ret ?_ | refine ImZq.i fun h => ?_ | refine IkZq.i fun hk => ?_)
    · obtain rfl : i = M.length := by omega
      have t3 : (1 + (n : Int)).toNat - Int.toNat 1 = n := by rw [t2]; show 1 + n - 1 = n; omega
      have lc : (List.take ((1 + (n : Int)).toNat - Int.toNat 1) (List.drop (Int.toNat 1) L)).length = n := by rw [t3]; show ((L.drop 1).take n).length = n; rw [List.length_take, List.length_drop]; omega
      repeat' (first
        | ((with_reducible refine Tw.retI ?_); refine Tw.frz env 0 (by rfl) (by rfl) (by rfl) ?_ ?_ (Tw.ret ?_))
        | refine GZy_i_y (And.intro hL lc) ?_ ?_ ?_ ?_ ?_ ?_ ?_ ?_
        | with_reducible first | exact BzZq.mk | refine Tw.ret ?_ | refine ImZq.i fun h => ?_ | refine IkZq.i fun hk => ?_)
      have ce : cut (List.take ((1 + (n : Int)).toNat - Int.toNat 1) (List.drop (Int.toNat 1) L)) 0 (List.take ((1 + (n : Int)).toNat - Int.toNat 1) (List.drop (Int.toNat 1) L)).length = cut L 1 n := by
        rw [cut_all rfl, t3]; rfl
      exact ⟨rfl, congrArg (fun l : List Int => (TV.tup [TV.lst Ey l, TV.int .i64 fix, TV.int .i64 k, TV.int .i64 0] : TV Go.Proofs.Ythkilkjngincpaa.A)) ce, rfl⟩
end Go.Proofs.Ythkilkjngincpaa
