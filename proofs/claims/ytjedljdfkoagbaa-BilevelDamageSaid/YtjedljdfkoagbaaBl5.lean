/- Compressed bitmaps: a bit is taken from the decoder; bitmaps half done (plain). -/
import Derived.Test.YtjedljdfkoagbaaBl1
import Derived.Test.YtjedljdfkoagbaaGo
namespace Go.Proofs.Ytjedljdfkoagbaa
open Go Go.Lite
set_option linter.unusedVariables false
set_option linter.unusedSimpArgs false
set_option maxRecDepth 100000
set_option maxHeartbeats 4000000
-- @simp rdi rdy

theorem get1_c (s : DS) (kk i : Nat) (I T V : Int) (eI : I = i) (eV : (dbit s i : Int) = V) (q : List Int) (so : DSOk 2049 kk s) (hi : i < 2049) (hk : kk ≤ 1000000) (hq : q.length ≤ 2097152) (hqb : ∀ i, i < q.length → 0 ≤ q.getD i 0 ∧ q.getD i 0 ≤ 255) :
    TC R Try.prog bilevel_Unpack_1_f [.int .i64 I, .int .i64 T, .ptr 0 0, .ptr 1 0]
      [some (.cells [.ptr 2 0]), some (.cells [.int .i64 0]), some (.cells [.sla 2 3 0 s.cs.length, .int .u32 s.w, .int .i64 kk, .int .u32 s.co, .sla 1 4 (min s.p q.length) (q.length - s.p)]), some (.arr E2w s.cs), some (.arr Ey q)]
      (fun v X => v = .int .i64 V ∧ X = [some (.cells [.ptr 2 0]), some (.cells [.int .i64 0]), some (.cells [.sla 2 3 0 (dstep q s i).cs.length, .int .u32 (dstep q s i).w, .int .i64 (kk + 1 : Nat), .int .u32 (dstep q s i).co, .sla 1 4 (min (dstep q s i).p q.length) (q.length - (dstep q s i).p)]), some (.arr E2w (dstep q s i).cs), some (.arr Ey q)]) := by
  subst eI
  subst eV
  have gc := get_c s.cs s.w kk s.co i q s.p (by rw [so.len]; exact hi) so.cx (by rw [so.len]; decide) so.w (by omega) so.co hq hqb (by have := so.p; omega)
  have bd : gB s.cs s.w i s.co ≤ 1 := gB_le
  by_cases hw : pW s.cs s.w i (gB s.cs s.w i s.co) < 16777216
  · have e2 : dstep q s i = ⟨lrnC s.cs i (gB s.cs s.w i s.co), pW s.cs s.w i (gB s.cs s.w i s.co) * 256, gC s.cs s.w i s.co * 256 % 4294967296 + q.getD s.p 0, s.p + 1⟩ := if_pos hw
    simp only [if_pos hw] at gc
    rw [e2]
    dsimp only [deR, dbit] at gc ⊢
    refine tc env bilevel_Unpack_1_s (by rfl) ?_
    dsimp only [bilevel_Unpack_1_c]
    repeat' (first
      | ((with_reducible refine TOps.any ?_); refine TOps.callHE env [2, 3, 4] (gc) (by rfl) (by rfl) (by rfl) (by rfl) (by rfl) (by rfl) (by repeat' (first | exact trivial | refine ⟨rfl, ?_⟩)) ?_)
      | refine GZp_i_y ?_ ?_ ?_ ?_ ?_ ?_ ?_ ?_
      | with_reducible first | exact BzZq.mk | refine Tw.ret ?_ | refine ImZq.i fun h => ?_ | refine IkZq.i fun hk => ?_)
    exact ⟨rfl, rfl⟩
  · have e2 : dstep q s i = ⟨lrnC s.cs i (gB s.cs s.w i s.co), pW s.cs s.w i (gB s.cs s.w i s.co), gC s.cs s.w i s.co, s.p⟩ := if_neg hw
    simp only [if_neg hw] at gc
    rw [e2]
    dsimp only [deR, dbit] at gc ⊢
    refine tc env bilevel_Unpack_1_s (by rfl) ?_
    dsimp only [bilevel_Unpack_1_c]
    repeat' (first
      | ((with_reducible refine TOps.any ?_); refine TOps.callHE env [2, 3, 4] (gc) (by rfl) (by rfl) (by rfl) (by rfl) (by rfl) (by rfl) (by repeat' (first | exact trivial | refine ⟨rfl, ?_⟩)) ?_)
      | refine GZp_i_y ?_ ?_ ?_ ?_ ?_ ?_ ?_ ?_
      | with_reducible first | exact BzZq.mk | refine Tw.ret ?_ | refine ImZq.i fun h => ?_ | refine IkZq.i fun hk => ?_)
    exact ⟨rfl, rfl⟩

/-- The first y rows, and x pixels of the next. -/
def upR (f : Nat → Nat → Bool) (y : Nat) (x v : Nat) : Bool := decide (v < y) && f x v
def upX (f : Nat → Nat → Bool) (y x : Nat) (i v : Nat) : Bool := (decide (v < y) || (decide (v = y) && decide (i < x))) && f i v
theorem upX_zero {f : Nat → Nat → Bool} {y i v : Nat} : upX f y 0 i v = upR f y i v := by unfold upX upR; simp
theorem upX_all {w : Nat} {f : Nat → Nat → Bool} {y i v : Nat} (hi : i < w) : upX f y w i v = upR f (y + 1) i v := by
  unfold upX upR
  rw [decide_eq_true hi, Bool.and_true]
  congr 1
  by_cases h1 : v < y
  · simp [h1, show v < y + 1 by omega]
  · by_cases h2 : v = y
    · simp [h2]
    · simp [h1, h2, show ¬ v < y + 1 by omega]
theorem upX_self {f : Nat → Nat → Bool} {y x : Nat} : upX f y x x y = false := by unfold upX; simp
theorem upX_no {f : Nat → Nat → Bool} {y x : Nat} (h : f x y = false) (i v : Nat) : upX f y (x + 1) i v = upX f y x i v := by
  unfold upX
  by_cases e : i = x ∧ v = y
  · obtain ⟨rfl, rfl⟩ := e
    rw [h]; simp
  · by_cases h2 : v = y
    · by_cases h3 : i < x
      · simp [h2, h3, show i < x + 1 by omega]
      · simp [h2, h3, show ¬ i < x + 1 by omega]
    · simp [h2]
theorem upX_yes {f : Nat → Nat → Bool} {y x : Nat} (h : f x y = true) (i v : Nat) : (upX f y x i v || (decide (i = x) && decide (v = y))) = upX f y (x + 1) i v := by
  by_cases e : i = x ∧ v = y
  · obtain ⟨rfl, rfl⟩ := e
    unfold upX
    rw [h]; simp
  · have e2 : (decide (i = x) && decide (v = y)) = false := by
      rw [Bool.and_eq_false_iff, decide_eq_false_iff_not, decide_eq_false_iff_not]
      exact Decidable.not_and_iff_or_not.1 e
    rw [e2, Bool.or_false]
    unfold upX
    by_cases h2 : v = y
    · by_cases h3 : i < x
      · simp [h2, h3, show i < x + 1 by omega]
      · simp [h2, h3, show ¬ i < x + 1 by omega]
    · simp [h2]
theorem win_up {w k : Nat} {f : Nat → Nat → Bool} {y x : Nat} : win w k (upX f y x) x y = win w k f x y := win_congr fun i j hi hj h => by
  unfold upX
  rcases h with h | ⟨h1, h2⟩
  · rw [decide_eq_true h]; simp
  · rw [decide_eq_true h1, decide_eq_true h2]; simp
/-- A row that is the row above. -/
theorem copy_row {w k : Nat} {f : Nat → Nat → Bool} {y : Nat} (hw : 0 < w) (hy : y < k) (hs : ∀ x, x < w → f x y = abv f y x) :
    (bm w k (upR f y)).take (y * st w) ++ rowB w (abv f y) ++ (bm w k (upR f y)).drop (y * st w + st w) = bm w k (upR f (y + 1)) := by
  have h0 : 0 < st w := st_pos hw
  have hle : (y + 1) * st w ≤ k * st w := Nat.mul_le_mul_right _ hy
  rw [Nat.add_mul, Nat.one_mul] at hle
  have lb : (bm w k (upR f y)).length = k * st w := by rw [bm_len, Nat.mul_comm]
  have lt : ((bm w k (upR f y)).take (y * st w)).length = y * st w := by rw [List.length_take, lb]; omega
  have lr : (rowB w (abv f y)).length = st w := rowB_len
  refine ext_getD 0 (by rw [List.length_append, List.length_append, lt, lr, List.length_drop, lb, bm_len, Nat.mul_comm (st w)]; omega) fun i hi => ?_
  rw [List.length_append, List.length_append, lt, lr, List.length_drop, lb] at hi
  have hi2 : i < st w * k := by rw [Nat.mul_comm]; omega
  rw [bm_get hi2]
  rcases Nat.lt_or_ge i (y * st w) with h1 | h1
  · rw [getD_app1 (by rw [List.length_append, lt]; omega), getD_app1 (by rw [lt]; exact h1)]
    rw [List.getD_eq_getElem?_getD, List.getElem?_take, if_pos h1, ← List.getD_eq_getElem?_getD, bm_get hi2]
    have hv : i / st w < y := Nat.div_lt_of_lt_mul (by rw [Nat.mul_comm]; exact h1)
    unfold bmB
    refine congrArg (fun n : Nat => (n : Int)) (bitsN_congr fun b _ => ?_)
    unfold upR
    rw [decide_eq_true hv, decide_eq_true (show i / st w < y + 1 by omega)]
  · rcases Nat.lt_or_ge i (y * st w + st w) with h2 | h2
    · rw [getD_app1 (by rw [List.length_append, lt, lr]; exact h2), getD_app2 (by rw [lt]; exact h1), lt]
      obtain ⟨m, rfl⟩ : ∃ m, i = y * st w + m := ⟨i - y * st w, by omega⟩
      rw [Nat.add_sub_cancel_left]
      have hm : m < st w := by omega
      unfold rowB
      rw [bm_get (by omega)]
      have m1 : (y * st w + m) % st w = m := by rw [Nat.mul_comm, Nat.mul_add_mod, Nat.mod_eq_of_lt hm]
      have m2 : (y * st w + m) / st w = y := by rw [Nat.mul_comm, Nat.mul_add_div h0, Nat.div_eq_of_lt hm, Nat.add_zero]
      unfold bmB
      rw [m1, m2, Nat.mod_eq_of_lt hm]
      refine congrArg (fun n : Nat => (n : Int)) (bitsN_congr fun b _ => ?_)
      by_cases hb : 8 * m + b < w
      · rw [decide_eq_true hb, Bool.true_and, Bool.true_and]
        show abv f y (8 * m + b) = _
        rw [← hs _ hb]
        unfold upR
        rw [decide_eq_true (show y < y + 1 by omega)]; simp
      · rw [decide_eq_false hb]; rfl
    · rw [getD_app2 (by rw [List.length_append, lt, lr]; exact h2), List.length_append, lt, lr]
      have e1 : ((bm w k (upR f y)).drop (y * st w + st w)).getD (i - (y * st w + st w)) 0 = (bm w k (upR f y)).getD i 0 := by
        rw [List.getD_eq_getElem?_getD, List.getElem?_drop, show y * st w + st w + (i - (y * st w + st w)) = i by omega, ← List.getD_eq_getElem?_getD]
      rw [e1, bm_get hi2]
      have hv : y + 1 ≤ i / st w := by
        rw [Nat.le_div_iff_mul_le h0, Nat.add_mul, Nat.one_mul]; exact h2
      unfold bmB
      refine congrArg (fun n : Nat => (n : Int)) (bitsN_congr fun b _ => ?_)
      unfold upR
      rw [decide_eq_false (show ¬ i / st w < y by omega), decide_eq_false (show ¬ i / st w < y + 1 by omega)]
end Go.Proofs.Ytjedljdfkoagbaa
