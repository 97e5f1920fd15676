/- Compressed bitmaps: bytes compared, the window of a pixel. -/
import Derived.Test.YtjedljdfkoagbaaBits2
import Derived.Test.YtjedljdfkoagbaaXBilevelDamage0
import Derived.Test.YtjedljdfkoagbaaRcM
import Derived.Test.YtjedljdfkoagbaaRc5
import Derived.Test.YtjedljdfkoagbaaGo
namespace Go.Proofs.Ytjedljdfkoagbaa
open Go Go.Lite
set_option linter.unusedVariables false
set_option linter.unusedSimpArgs false
set_option maxRecDepth 100000
set_option maxHeartbeats 4000000
-- @simp rdi rdy

theorem bequal_c (a b : List Int) (ha : ∀ i, i < a.length → 0 ≤ a.getD i 0 ∧ a.getD i 0 ≤ 255) (hb : ∀ i, i < b.length → 0 ≤ b.getD i 0 ∧ b.getD i 0 ≤ 255) :
    TC R Try.prog bytes_Equal_f [.lst Ey a, .lst Ey b] [] (fun v X => v = .bool (decide (a = b)) ∧ X = []) := by
  have e : decide (strOfNums a = strOfNums b) = decide (a = b) := decide_eq_decide.2 ⟨str_inj ha hb, fun h => by rw [h]⟩
  refine tc0 env bytes_Equal_s (by rfl) ?_
  dsimp only [bytes_Equal_c]
  repeat' (first
    | refine GZp_i_y ?_ ?_ ?_ ?_ ?_ ?_ ?_ ?_
    | with_reducible first | exact BzZq.mk | refine Tw.ret ?_ | refine ImZq.i fun h => ?_ | refine IkZq.i fun hk => ?_)
  exact ⟨rfl, congrArg TV.bool ((str_eq _ _).trans e), rfl⟩

theorem bor1 {t : Int} (h : 0 ≤ t) : bor (t * 2 ^ Int.toNat 1) 1 = 2 * t + 1 := by
  obtain ⟨x, rfl⟩ : ∃ x : Nat, t = (x : Int) := ⟨t.toNat, by omega⟩
  have e : (x : Int) * 2 ^ Int.toNat 1 = ((2 ^ 1 * x : Nat) : Int) := by
    show (x : Int) * 2 = _
    omega
  have h2 := Nat.two_pow_add_eq_or_of_lt (i := 1) (b := 1) (by omega) x
  rw [e]
  unfold bor
  rw [Int.toNat_natCast, show Int.toNat 1 = 1 from rfl, ← h2]
  omega
theorem win1_c (w k : Nat) (d : List Int) (row from0 T : Int) (n : Nat) (x : Nat) (c : Int) (m : Nat) (eT : T = from0 + n - 1) (ok : BmOk w k d) (hx : x ≤ 1024) (hr : -2 ≤ row ∧ row ≤ 1024) (hf : -3 ≤ from0 ∧ from0 + n ≤ 3) (hm : m + n ≤ 11) (hc : 0 ≤ c ∧ c < 2 ^ m) :
    TC R Try.prog bilevel_window_1_f [.int .i64 row, .int .i64 from0, .int .i64 T, .ptr 0 0, .ptr 1 0, .ptr 2 0] [some (.cells [.int .i64 c]), some (.cells [.pel [.int .i64 w, .int .i64 k, .lst Ey d]]), some (.cells [.int .i64 x])]
      (fun v X => v = .tup [] ∧ X = [some (.cells [.int .i64 (tk (px w k d) x row from0 c n)]), some (.cells [.pel [.int .i64 w, .int .i64 k, .lst Ey d]]), some (.cells [.int .i64 x])]) := by
  subst eT
  refine tc env bilevel_window_1_s (by rfl) ?_
  dsimp only [bilevel_window_1_c]
  have z0 : from0 + ((0 : Nat) : Int) = from0 := by omega
  repeat' (first
    | refine GZp_i_y ?_ ?_ ?_ ?_ ?_ ?_ ?_ ?_
    | with_reducible first | exact BzZq.mk | refine Tw.ret ?_ | refine ImZq.i fun h => ?_ | refine IkZq.i fun hk => ?_)
  refine Tw.loopK [0, 2, 3, 4, 5] (fun i : Nat => i ≤ n) (fun i => n - i) (fun i => [(9, .int .i64 (from0 + i))])
    (fun i => [some (.cells [.int .i64 (tk (px w k d) x row from0 c i)]), some (.cells [.pel [.int .i64 w, .int .i64 k, .lst Ey d]]), some (.cells [.int .i64 x])]) ⟨0, by omega, TWk.fcanon env [some 0, some 1, some 2] (by rfl) ?_⟩ (fun i hi => ?_)
  · repeat' (first
      | exact z0
      | exact rfl
      | with_reducible first | exact Conj.nil | refine Conj.cons rfl ?_ | refine Conj.same ?_ | refine Conj.ask ?_ ?_
      | ((with_reducible refine Due.mk ?_); (first | with_reducible rfl | omega | assumption | decide | ((try simp only [goS] at *) <;> (try intro h) <;> (try intro h') <;> (try simp only [goS] at *) <;> (try simp only [rdi, rdy, Int.toNat_natCast, Nat.add_zero] at *) <;> (try simp only [rng]) <;> (first | assumption | omega)) | (exact due_app0 (by omega)) | (exact due_app (by omega)) | (intros; simp; done) | (intros; simp; omega)))
      | with_reducible refine Due.mk ?_
      | omega)
  have tb := tk_bd (p := px w k d) (x := x) (row := row) (from0 := from0) hc i
  rcases Nat.lt_or_ge i n with hi2 | hi2
  · have hp2 : (2 : Int) ^ (m + i) ≤ 1024 := by
      have h1 : (2 : Nat) ^ (m + i) ≤ 2 ^ 10 := Nat.pow_le_pow_right (by omega) (by omega)
      have h2 : ((2 ^ (m + i) : Nat) : Int) ≤ 1024 := by omega
      simpa using h2
    have ic := is_c w k d ((x : Int) + (from0 + i)) row ok
    have nx : tk (px w k d) x row from0 c (i + 1) = sh1 (tk (px w k d) x row from0 c i) (px w k d ((x : Int) + (from0 + i)) row) := rfl
    generalize tk (px w k d) x row from0 c i = t at *
    have r1 : rng .i64 (t * 2 ^ Int.toNat 1) := by
      show -9223372036854775808 ≤ t * 2 ∧ t * 2 ≤ 9223372036854775807
      omega
    have e9 : from0 + ((i + 1 : Nat) : Int) = from0 + i + 1 := by omega
    have b1 := bor1 tb.1
    cases hb : px w k d ((x : Int) + (from0 + i)) row
    · rw [hb] at ic nx
      have e2 : tk (px w k d) x row from0 c (i + 1) = t * 2 ^ Int.toNat 1 := by
        rw [nx]
        show 2 * t + 0 = t * 2
        omega
      repeat' (first
        | ((with_reducible refine TOps.any ?_); refine TOps.callE env (by rfl) (by rfl) (by rfl) ?_ (ic) (by rfl) ?_)
        | exact r1
        | exact r1.1
        | exact r1.2
        | refine GZp_i_y ?_ ?_ ?_ ?_ ?_ ?_ ?_ ?_
        | with_reducible first | exact BzZq.mk | refine Tw.ret ?_ | refine ImZq.i fun h => ?_ | refine IkZq.i fun hk => ?_)
      refine ⟨i + 1, by omega, by omega, TWk.fcanon env [some 0, some 1, some 2] (by rfl) ?_⟩
      repeat' (first
        | exact e9
        | exact e2
        | with_reducible first | exact Conj.nil | refine Conj.cons rfl ?_ | refine Conj.same ?_ | refine Conj.ask ?_ ?_
        | ((with_reducible refine Due.mk ?_); (first | with_reducible rfl | omega | assumption | decide | ((try simp only [goS] at *) <;> (try intro h) <;> (try intro h') <;> (try simp only [goS] at *) <;> (try simp only [rdi, rdy, Int.toNat_natCast, Nat.add_zero] at *) <;> (try simp only [rng]) <;> (first | assumption | omega)) | (exact due_app0 (by omega)) | (exact due_app (by omega)) | (intros; simp; done) | (intros; simp; omega)))
        | with_reducible refine Due.mk ?_
        | omega)
    · rw [hb] at ic nx
      have e2 : tk (px w k d) x row from0 c (i + 1) = bor (t * 2 ^ Int.toNat 1) 1 := by
        rw [nx, b1]; rfl
      repeat' (first
        | ((with_reducible refine TOps.any ?_); refine TOps.callE env (by rfl) (by rfl) (by rfl) ?_ (ic) (by rfl) ?_)
        | exact r1
        | exact r1.1
        | exact r1.2
        | refine GZp_i_y ?_ ?_ ?_ ?_ ?_ ?_ ?_ ?_
        | with_reducible first | exact BzZq.mk | refine Tw.ret ?_ | refine ImZq.i fun h => ?_ | refine IkZq.i fun hk => ?_)
      refine ⟨i + 1, by omega, by omega, TWk.fcanon env [some 0, some 1, some 2] (by rfl) ?_⟩
      repeat' (first
        | exact e9
        | exact e2
        | with_reducible first | exact Conj.nil | refine Conj.cons rfl ?_ | refine Conj.same ?_ | refine Conj.ask ?_ ?_
        | ((with_reducible refine Due.mk ?_); (first | with_reducible rfl | omega | assumption | decide | ((try simp only [goS] at *) <;> (try intro h) <;> (try intro h') <;> (try simp only [goS] at *) <;> (try simp only [rdi, rdy, Int.toNat_natCast, Nat.add_zero] at *) <;> (try simp only [rng]) <;> (first | assumption | omega)) | (exact due_app0 (by omega)) | (exact due_app (by omega)) | (intros; simp; done) | (intros; simp; omega)))
        | with_reducible refine Due.mk ?_
        | omega)
  · obtain rfl : i = n := by omega
    repeat' (first
      | refine GZp_i_y ?_ ?_ ?_ ?_ ?_ ?_ ?_ ?_
      | with_reducible first | exact BzZq.mk | refine Tw.ret ?_ | refine ImZq.i fun h => ?_ | refine IkZq.i fun hk => ?_)
    exact ⟨rfl, rfl⟩

theorem window_c (w k : Nat) (d : List Int) (x y : Nat) (ok : BmOk w k d) (hx : x ≤ 1024) (hy : y ≤ 1024) :
    TC R Try.prog bilevel_window_f [.pel [.int .i64 w, .int .i64 k, .lst Ey d], .int .i64 x, .int .i64 y] [] (fun v X => v = .int .i64 (winV (px w k d) x y) ∧ X = []) := by
  have c0 : (0 : Int) ≤ 0 ∧ (0 : Int) < 2 ^ 0 := by decide
  have c1 := tk_bd (p := px w k d) (x := x) (row := (y : Int) - 2) (from0 := -1) c0 3
  have c2 := tk_bd (p := px w k d) (x := x) (row := (y : Int) - 1) (from0 := -2) c1 5
  have w1 := win1_c w k d ((y : Int) - 2) (-1) 1 3 x 0 0 (by omega) ok hx (by omega) (by omega) (by omega) c0
  have w2 := win1_c w k d ((y : Int) - 1) (-2) 2 5 x (tk (px w k d) x ((y : Int) - 2) (-1) 0 3) (0 + 3) (by omega) ok hx (by omega) (by omega) (by omega) c1
  have w3 := win1_c w k d (y : Int) (-3) (-1) 3 x (tk (px w k d) x ((y : Int) - 1) (-2) (tk (px w k d) x ((y : Int) - 2) (-1) 0 3) 5) (0 + 3 + 5) (by omega) ok hx (by omega) (by omega) (by omega) c2
  refine tc0 env bilevel_window_s (by rfl) ?_
  dsimp only [bilevel_window_c]
  repeat' (first
    | ((with_reducible refine TOps.any ?_); refine TOps.callHE env [2, 0, 1] (w1) (by rfl) (by rfl) (by rfl) (by rfl) (by rfl) (by rfl) (by repeat' (first | exact trivial | refine ⟨rfl, ?_⟩)) ?_)
    | ((with_reducible refine TOps.any ?_); refine TOps.callHE env [2, 0, 1] (w2) (by rfl) (by rfl) (by rfl) (by rfl) (by rfl) (by rfl) (by repeat' (first | exact trivial | refine ⟨rfl, ?_⟩)) ?_)
    | ((with_reducible refine TOps.any ?_); refine TOps.callHE env [2, 0, 1] (w3) (by rfl) (by rfl) (by rfl) (by rfl) (by rfl) (by rfl) (by repeat' (first | exact trivial | refine ⟨rfl, ?_⟩)) ?_)
    | refine GZp_i_y ?_ ?_ ?_ ?_ ?_ ?_ ?_ ?_
    | with_reducible first | exact BzZq.mk | refine Tw.ret ?_ | refine ImZq.i fun h => ?_ | refine IkZq.i fun hk => ?_)
  exact ⟨rfl, rfl, rfl⟩
end Go.Proofs.Ytjedljdfkoagbaa
