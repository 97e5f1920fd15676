/- Matrix codes: Border. -/
import Derived.Test.YthkilkjngincpaaRsM
import Derived.Test.YthkilkjngincpaaCamX
import Derived.Test.YthkilkjngincpaaGo
namespace Go.Proofs.Ythkilkjngincpaa
open Go Go.Lite
set_option linter.unusedVariables false
set_option linter.unusedSimpArgs false
set_option maxRecDepth 100000
set_option maxHeartbeats 4000000
-- @simp rdi rdy

def mOne (b : Bool) : Int := if b then 1 else 0
/-- Wrong modules of the border of f, in the rows before y, and in the row y before x. -/
def mBad (s : Nat) (f : Nat → Nat → Bool) (x y : Nat) : Bool := mBord s x y && (mDark s x y != f x y)
def mRow (s : Nat) (f : Nat → Nat → Bool) (y x : Nat) : Int := sumN (fun i => mOne (mBad s f i y)) x
def mWr (s : Nat) (f : Nat → Nat → Bool) (y : Nat) : Int := sumN (fun j => mRow s f j s) y
theorem mOne_bd (b : Bool) : 0 ≤ mOne b ∧ mOne b ≤ 1 := by unfold mOne; split <;> omega
theorem mRow_bd (s : Nat) (f : Nat → Nat → Bool) (y x : Nat) : 0 ≤ mRow s f y x ∧ mRow s f y x ≤ x := by
  have := sumN_bd (f := fun i => mOne (mBad s f i y)) (k := 1) (n := x) fun i _ => mOne_bd _
  unfold mRow; omega
theorem mWr_bd (s : Nat) (f : Nat → Nat → Bool) (y : Nat) : 0 ≤ mWr s f y ∧ mWr s f y ≤ (s : Int) * y :=
  sumN_bd fun i _ => mRow_bd s f i s
/-- The turned square. -/
theorem trn_sq (s : Nat) (D : List Int) (k : Nat) : (trn (s, s, D) k).1 = s ∧ (trn (s, s, D) k).2.1 = s := by
  have key : ∀ (t : Bm3) n, t.1 = s → t.2.1 = s → (rots t n).1 = s ∧ (rots t n).2.1 = s := fun t n h1 h2 => by
    induction n with
    | zero => exact ⟨h1, h2⟩
    | succ n ih => exact ⟨ih.2, ih.1⟩
  unfold trn
  split
  · exact key _ _ rfl rfl
  · exact key _ _ rfl rfl
/-- The pixels of the square, turned k times. -/
def mPix (s : Nat) (D : List Int) (k : Nat) (x y : Nat) : Bool := px s s (trn (s, s, D) k).2.2 x y
/-- The best turn among the first n, and its wrong modules. -/
def mBest (s : Nat) (D : List Int) : Nat → Nat × Int
  | 0 => (0, 4 * (s : Int))
  | n + 1 => if mWr s (mPix s D n) s < (mBest s D n).2 then (n, mWr s (mPix s D n) s) else mBest s D n
theorem mBest_bd (s : Nat) (D : List Int) (hs : s ≤ 32) : ∀ n, n ≤ 4 → (mBest s D n).1 ≤ 4 ∧ 0 ≤ (mBest s D n).2 ∧ (mBest s D n).2 ≤ 128
  | 0, _ => by simp only [mBest]; omega
  | n + 1, h => by
    have ih := mBest_bd s D hs n (by omega)
    have hw := mWr_bd s (mPix s D n) s
    simp only [mBest]
    split
    · dsimp only; omega
    · exact ih
theorem mBorder_c (s : Nat) (D : List Int) (ok : Due (BmOk s s D)) (hs : Due (8 ≤ s ∧ s ≤ 32)) :
    TC R Try.prog matrix_Border_f [.ptr 0 0] [some (.cells [.int .i64 s, .int .i64 s, .lst Ey D])] (fun v X => v = .tup [.int .i64 (mBest s D 4).1, .int .i64 (mBest s D 4).2] ∧ X = [some (.cells [.int .i64 s, .int .i64 s, .lst Ey D])]) := by
  dsimp only [Due] at ok hs
  have ss : s * s ≤ 32 * 32 := Nat.mul_le_mul hs.2 hs.2
  refine tc env matrix_Border_s (by rfl) ?_
  dsimp only [matrix_Border_c]
  repeat' (first
    | refine GZp_i_y ?_ ?_ ?_ ?_ ?_ ?_ ?_ ?_
    | with_reducible first | exact BzZq.mk | refine Tw.ret ?_ | refine ImZq.i fun h => ?_ | refine IkZq.i fun hk => ?_)
  refine Tw.loopK [0] (fun k : Nat => k ≤ 4) (fun k => 4 - k) (fun k => [(16, .int .i64 k), (2, .int .i64 (mBest s D k).1), (3, .int .i64 (mBest s D k).2)])
    (fun _ => [some (.cells [.int .i64 s, .int .i64 s, .lst Ey D])]) ⟨0, by omega, TWk.fcanon env [some 0] (by rfl) ?_⟩ (fun k hk => ?_)
  · repeat' (first
      | exact rfl
      | refine GZ_i_y ?_ ?_ ?_ ?_ ?_ ?_ ?_ ?_
      | with_reducible first | exact BzZq.mk | refine Tw.ret ?_ | refine ImZq.i fun h => ?_ | refine IkZq.i fun hk => ?_)
  rcases Nat.lt_or_ge k 4 with hk | hk
  · have tc := turned_c s s D k ok (by omega)
    obtain ⟨q1, q2⟩ := trn_sq s D k
    have okT : BmOk s s (trn (s, s, D) k).2.2 := by have := trn_ok (t := (s, s, D)) ok k; unfold Ok3 at this; rw [q1, q2] at this; exact this
    unfold enT at tc
    rw [q1, q2] at tc
    have eP : mPix s D k = fun x y : Nat => px s s (trn (s, s, D) k).2.2 x y := rfl
    have nb := mBest_bd s D hs.2 k (by omega)
    generalize hT : (trn (s, s, D) k).2.2 = T at *
    generalize hF : (fun x y : Nat => px s s T x y) = f at *
    have wb := mWr_bd s f s
    repeat' (first
      | ((with_reducible refine TOps.any ?_); refine TOps.callHE env [0] (tc) (by rfl) (by rfl) (by rfl) (by rfl) (by rfl) (by rfl) (by repeat' (first | exact trivial | refine ⟨rfl, ?_⟩)) ?_)
      | refine GZp_i_y ?_ ?_ ?_ ?_ ?_ ?_ ?_ ?_
      | with_reducible first | exact BzZq.mk | refine Tw.ret ?_ | refine ImZq.i fun h => ?_ | refine IkZq.i fun hk => ?_)
    refine Tw.loopK [0, 16, 4, 2, 3, 23] (fun y : Nat => y ≤ s) (fun y => s - y) (fun y => [(24, .int .i64 y), (6, .int .i64 (mWr s f y)), (5, .ptr 1 0)])
      (fun y => [some (.cells [.int .i64 s, .int .i64 s, .lst Ey D]), some (.cells [.int .i64 s, .int .i64 s, .lst Ey T])]) ⟨0, by omega, TWk.fcanon env [some 0, some 1] (by rfl) ?_⟩ (fun y hy => ?_)
    · repeat' (first
        | exact rfl
        | refine GZ_i_y ?_ ?_ ?_ ?_ ?_ ?_ ?_ ?_
        | with_reducible first | exact BzZq.mk | refine Tw.ret ?_ | refine ImZq.i fun h => ?_ | refine IkZq.i fun hk => ?_)
    have yb : (s : Int) * (y : Int) ≤ 32 * 32 := Int.mul_le_mul (by omega) (by omega) (by omega) (by omega)
    have wy := mWr_bd s f y
    rcases Nat.lt_or_ge y s with hy | hy
    · repeat' (first
        | refine GZp_i_y ?_ ?_ ?_ ?_ ?_ ?_ ?_ ?_
        | with_reducible first | exact BzZq.mk | refine Tw.ret ?_ | refine ImZq.i fun h => ?_ | refine IkZq.i fun hk => ?_)
      refine Tw.loopK [0, 16, 4, 2, 3, 5, 23, 24, 7, 28] (fun x : Nat => x ≤ s) (fun x => s - x) (fun x => [(29, .int .i64 x), (6, .int .i64 (mWr s f y + mRow s f y x))])
        (fun x => [some (.cells [.int .i64 s, .int .i64 s, .lst Ey D]), some (.cells [.int .i64 s, .int .i64 s, .lst Ey T])]) ⟨0, by omega, TWk.fcanon env [some 0, some 1] (by rfl) ?_⟩ (fun x hx => ?_)
      · have z : mWr s f y + mRow s f y 0 = mWr s f y := by unfold mRow; simp [sumN]
        repeat' (first
          | exact z
          | exact z.symm
          | refine GZ_i_y ?_ ?_ ?_ ?_ ?_ ?_ ?_ ?_
          | with_reducible first | exact BzZq.mk | refine Tw.ret ?_ | refine ImZq.i fun h => ?_ | refine IkZq.i fun hk => ?_)
      have rx := mRow_bd s f y x
      rcases Nat.lt_or_ge x s with hx | hx
      · have dc := dark_c s x y (by unfold Due; omega) hx hy
        have ic := is_c s s T x y okT
        have fe : px s s T x y = f x y := by rw [← hF]
        rw [fe] at ic
        have ex : mRow s f y (x + 1) = mRow s f y x + mOne (mBord s x y && (mDark s x y != f x y)) := rfl
        cases hB : mBord s x y with
        | false =>
          rw [hB] at dc ex
          have e2 : mWr s f y + mRow s f y (x + 1) = mWr s f y + mRow s f y x := by rw [ex]; unfold mOne; simp
          repeat' (first
            | ((with_reducible refine TOps.any ?_); refine TOps.callV env (by rfl) (by rfl) (by rfl) (dc) ?_)
            | refine GZp_i_y ?_ ?_ ?_ ?_ ?_ ?_ ?_ ?_
            | with_reducible first | exact BzZq.mk | refine Tw.ret ?_ | refine ImZq.i fun h => ?_ | refine IkZq.i fun hk => ?_)
          refine ⟨x + 1, by omega, by omega, TWk.fcanon env [some 0, some 1] (by rfl) ?_⟩
          repeat' (first
            | exact e2
            | refine GZ_i_y ?_ ?_ ?_ ?_ ?_ ?_ ?_ ?_
            | with_reducible first | exact BzZq.mk | refine Tw.ret ?_ | refine ImZq.i fun h => ?_ | refine IkZq.i fun hk => ?_)
        | true =>
          rw [hB] at dc ex
          have e2 : mWr s f y + mRow s f y (x + 1) = mWr s f y + mRow s f y x + (if mDark s x y = f x y then 0 else 1) := by
            rw [ex]; unfold mOne
            cases mDark s x y <;> cases f x y <;> simp <;> omega
          cases hD : mDark s x y <;> cases hf : f x y
          all_goals rw [hD] at dc e2
          all_goals rw [hf] at ic e2
          all_goals first | rw [if_pos rfl, Int.add_zero] at e2 | rw [if_neg (by simp)] at e2
          · repeat' (first
              | ((with_reducible refine TOps.any ?_); refine TOps.callV env (by rfl) (by rfl) (by rfl) (dc) ?_)
              | ((with_reducible refine TOps.any ?_); refine TOps.callE env (by rfl) (by rfl) (by rfl) ?_ (ic) (by rfl) ?_)
              | refine GZp_i_y ?_ ?_ ?_ ?_ ?_ ?_ ?_ ?_
              | with_reducible first | exact BzZq.mk | refine Tw.ret ?_ | refine ImZq.i fun h => ?_ | refine IkZq.i fun hk => ?_)
            refine ⟨x + 1, by omega, by omega, TWk.fcanon env [some 0, some 1] (by rfl) ?_⟩
            repeat' (first
              | exact e2
              | refine GZ_i_y ?_ ?_ ?_ ?_ ?_ ?_ ?_ ?_
              | with_reducible first | exact BzZq.mk | refine Tw.ret ?_ | refine ImZq.i fun h => ?_ | refine IkZq.i fun hk => ?_)
          · repeat' (first
              | ((with_reducible refine TOps.any ?_); refine TOps.callV env (by rfl) (by rfl) (by rfl) (dc) ?_)
              | ((with_reducible refine TOps.any ?_); refine TOps.callE env (by rfl) (by rfl) (by rfl) ?_ (ic) (by rfl) ?_)
              | refine GZp_i_y ?_ ?_ ?_ ?_ ?_ ?_ ?_ ?_
              | with_reducible first | exact BzZq.mk | refine Tw.ret ?_ | refine ImZq.i fun h => ?_ | refine IkZq.i fun hk => ?_)
            refine ⟨x + 1, by omega, by omega, TWk.fcanon env [some 0, some 1] (by rfl) ?_⟩
            repeat' (first
              | exact e2
              | refine GZ_i_y ?_ ?_ ?_ ?_ ?_ ?_ ?_ ?_
              | with_reducible first | exact BzZq.mk | refine Tw.ret ?_ | refine ImZq.i fun h => ?_ | refine IkZq.i fun hk => ?_)
          · repeat' (first
              | ((with_reducible refine TOps.any ?_); refine TOps.callV env (by rfl) (by rfl) (by rfl) (dc) ?_)
              | ((with_reducible refine TOps.any ?_); refine TOps.callE env (by rfl) (by rfl) (by rfl) ?_ (ic) (by rfl) ?_)
              | refine GZp_i_y ?_ ?_ ?_ ?_ ?_ ?_ ?_ ?_
              | with_reducible first | exact BzZq.mk | refine Tw.ret ?_ | refine ImZq.i fun h => ?_ | refine IkZq.i fun hk => ?_)
            refine ⟨x + 1, by omega, by omega, TWk.fcanon env [some 0, some 1] (by rfl) ?_⟩
            repeat' (first
              | exact e2
              | refine GZ_i_y ?_ ?_ ?_ ?_ ?_ ?_ ?_ ?_
              | with_reducible first | exact BzZq.mk | refine Tw.ret ?_ | refine ImZq.i fun h => ?_ | refine IkZq.i fun hk => ?_)
          · repeat' (first
              | ((with_reducible refine TOps.any ?_); refine TOps.callV env (by rfl) (by rfl) (by rfl) (dc) ?_)
              | ((with_reducible refine TOps.any ?_); refine TOps.callE env (by rfl) (by rfl) (by rfl) ?_ (ic) (by rfl) ?_)
              | refine GZp_i_y ?_ ?_ ?_ ?_ ?_ ?_ ?_ ?_
              | with_reducible first | exact BzZq.mk | refine Tw.ret ?_ | refine ImZq.i fun h => ?_ | refine IkZq.i fun hk => ?_)
            refine ⟨x + 1, by omega, by omega, TWk.fcanon env [some 0, some 1] (by rfl) ?_⟩
            repeat' (first
              | exact e2
              | refine GZ_i_y ?_ ?_ ?_ ?_ ?_ ?_ ?_ ?_
              | with_reducible first | exact BzZq.mk | refine Tw.ret ?_ | refine ImZq.i fun h => ?_ | refine IkZq.i fun hk => ?_)
      · obtain rfl : x = s := by omega
        have e2 : mWr x f (y + 1) = mWr x f y + mRow x f y x := rfl
        repeat' (first
          | refine GZp_i_y ?_ ?_ ?_ ?_ ?_ ?_ ?_ ?_
          | with_reducible first | exact BzZq.mk | refine Tw.ret ?_ | refine ImZq.i fun h => ?_ | refine IkZq.i fun hk => ?_)
        refine ⟨y + 1, by omega, by omega, TWk.fcanon env [some 0, some 1] (by rfl) ?_⟩
        repeat' (first
          | exact e2
          | refine GZ_i_y ?_ ?_ ?_ ?_ ?_ ?_ ?_ ?_
          | with_reducible first | exact BzZq.mk | refine Tw.ret ?_ | refine ImZq.i fun h => ?_ | refine IkZq.i fun hk => ?_)
    · obtain rfl : y = s := by omega
      have eB : mBest y D (k + 1) = if mWr y f y < (mBest y D k).2 then (k, mWr y f y) else mBest y D k := by simp only [mBest]; rw [eP]
      repeat' (first
        | refine GZp_i_y ?_ ?_ ?_ ?_ ?_ ?_ ?_ ?_
        | with_reducible first | exact BzZq.mk | refine Tw.ret ?_ | refine ImZq.i fun h => ?_ | refine IkZq.i fun hk => ?_)
      · rw [if_pos (by assumption)] at eB
        refine ⟨k + 1, by omega, by omega, TWk.fcanon env [some 0] (by rfl) ?_⟩
        repeat' (first
          | exact congrArg (fun p : Nat × Int => (p.1 : Int)) eB
          | exact congrArg (fun p : Nat × Int => p.2) eB
          | refine GZ_i_y ?_ ?_ ?_ ?_ ?_ ?_ ?_ ?_
          | with_reducible first | exact BzZq.mk | refine Tw.ret ?_ | refine ImZq.i fun h => ?_ | refine IkZq.i fun hk => ?_)
      · rw [if_neg (by omega)] at eB
        refine ⟨k + 1, by omega, by omega, TWk.fcanon env [some 0] (by rfl) ?_⟩
        repeat' (first
          | exact congrArg (fun p : Nat × Int => (p.1 : Int)) eB
          | exact congrArg (fun p : Nat × Int => p.2) eB
          | refine GZ_i_y ?_ ?_ ?_ ?_ ?_ ?_ ?_ ?_
          | with_reducible first | exact BzZq.mk | refine Tw.ret ?_ | refine ImZq.i fun h => ?_ | refine IkZq.i fun hk => ?_)
  · obtain rfl : k = 4 := by omega
    repeat' (first
      | refine GZp_i_y ?_ ?_ ?_ ?_ ?_ ?_ ?_ ?_
      | with_reducible first | exact BzZq.mk | refine Tw.ret ?_ | refine ImZq.i fun h => ?_ | refine IkZq.i fun hk => ?_)
    exact ⟨rfl, rfl⟩
end Go.Proofs.Ythkilkjngincpaa
