/- Presses: sheets are counted; runs that are refused. -/
import Derived.Test.YtihminfnphichaaPrsR
import Derived.Test.YtihminfnphichaaGo
namespace Go.Proofs.Ytihminfnphichaa
open Go Go.Lite
set_option linter.unusedVariables false
set_option linter.unusedSimpArgs false
set_option maxRecDepth 100000
set_option maxHeartbeats 4000000
-- @simp rdi rd6i rdLiJ

def dRec : SRec := (0, 0, [], [], 0)
def cnS (l : List SRec) (st : Int) : Nat → Int
  | 0 => 0
  | n + 1 => if (l.getD n dRec).2.1 = st then cnS l st n + 1 else cnS l st n
theorem cnS_in {l : List SRec} {st : Int} : ∀ n, 0 ≤ cnS l st n ∧ cnS l st n ≤ n
  | 0 => by simp [cnS]
  | n + 1 => by
    have := cnS_in (l := l) (st := st) n
    unfold cnS
    split <;> omega
theorem cnS_sum {l : List SRec} : ∀ n, (∀ k, k < n → (l.getD k dRec).2.1 = 0 ∨ (l.getD k dRec).2.1 = 1 ∨ (l.getD k dRec).2.1 = 2) → cnS l 0 n + cnS l 1 n + cnS l 2 n = n
  | 0, _ => rfl
  | n + 1, h => by
    have ih := cnS_sum (l := l) n (fun k hk => h k (by omega))
    have := h n (by omega)
    unfold cnS
    split <;> split <;> split <;> omega
theorem tally_c (l : List SRec) (hl : Due (l.length ≤ 4000)) : TC R Try.prog press_Tally_f [.lst E2iL2iJLLiJJi l] [] (fun v X => v = .tup [.int .i64 (cnS l 0 l.length), .int .i64 (cnS l 1 l.length), .int .i64 (cnS l 2 l.length)] ∧ X = []) := by
  dsimp only [Due] at hl
  refine tc0 env press_Tally_s (by rfl) ?_
  dsimp only [press_Tally_c]
  repeat' (first
    | refine GZp_i_6i_LiJ ?_ ?_ ?_ ?_ ?_ ?_ ?_ ?_
    | with_reducible first | exact BzZq.mk | refine Tw.ret ?_ | refine ImZq.i fun h => ?_ | refine IkZq.i fun hk => ?_)
  refine Tw.loopK [7] (fun i : Nat => i ≤ l.length) (fun i => l.length - i) (fun i => [(9, .int .i64 i), (8, .int .i64 l.length), (2, .int .i64 (cnS l 0 i)), (3, .int .i64 (cnS l 1 i)), (4, .int .i64 (cnS l 2 i))]) (fun _ => []) ⟨0, by omega, TWk.fcanon env [] (by rfl) ?_⟩ (fun i hi => ?_)
  · repeat' (first
      | exact rfl
      | refine GZ_i_6i_LiJ ?_ ?_ ?_ ?_ ?_ ?_ ?_ ?_
      | with_reducible first | exact BzZq.mk | refine Tw.ret ?_ | refine ImZq.i fun h => ?_ | refine IkZq.i fun hk => ?_)
  rcases Nat.lt_or_ge i l.length with hi | hi
  · have c0 := cnS_in (l := l) (st := 0) i
    have c1 := cnS_in (l := l) (st := 1) i
    have c2 := cnS_in (l := l) (st := 2) i
    obtain ⟨a, st, b, c, d, e⟩ : ∃ a st b c d, l.getD i dRec = (a, st, b, c, d) := ⟨_, _, _, _, _, rfl⟩
    have e' : l.getD i ((0 : Int), (0 : Int), ([] : List (Int × Int)), ([] : List (List Int)), (0 : Int)) = (a, st, b, c, d) := e
    have s0 : cnS l 0 (i + 1) = if st = 0 then cnS l 0 i + 1 else cnS l 0 i := by rw [cnS, e]
    have s1 : cnS l 1 (i + 1) = if st = 1 then cnS l 1 i + 1 else cnS l 1 i := by rw [cnS, e]
    have s2 : cnS l 2 (i + 1) = if st = 2 then cnS l 2 i + 1 else cnS l 2 i := by rw [cnS, e]
    have e2 : l.getD i (R.d E2iL2iJLLiJJi) = (a, st, b, c, d) := e
    clear e e'
    by_cases h0 : st = 0
    · subst h0
      repeat' (first
        | refine GZy_i_6i_LiJ e2 ?_ ?_ ?_ ?_ ?_ ?_ ?_ ?_
        | with_reducible first | exact BzZq.mk | refine Tw.ret ?_ | refine ImZq.i fun h => ?_ | refine IkZq.i fun hk => ?_)
      refine ⟨i + 1, by omega, by omega, TWk.fcanon env [] (by rfl) ?_⟩
      repeat' (first
        | exact s0
        | exact s1
        | exact s2
        | refine GZ_i_6i_LiJ ?_ ?_ ?_ ?_ ?_ ?_ ?_ ?_
        | with_reducible first | exact BzZq.mk | refine Tw.ret ?_ | refine ImZq.i fun h => ?_ | refine IkZq.i fun hk => ?_)
    by_cases h1 : st = 1
    · subst h1
      repeat' (first
        | refine GZy_i_6i_LiJ e2 ?_ ?_ ?_ ?_ ?_ ?_ ?_ ?_
        | with_reducible first | exact BzZq.mk | refine Tw.ret ?_ | refine ImZq.i fun h => ?_ | refine IkZq.i fun hk => ?_)
      refine ⟨i + 1, by omega, by omega, TWk.fcanon env [] (by rfl) ?_⟩
      repeat' (first
        | exact s0
        | exact s1
        | exact s2
        | refine GZ_i_6i_LiJ ?_ ?_ ?_ ?_ ?_ ?_ ?_ ?_
        | with_reducible first | exact BzZq.mk | refine Tw.ret ?_ | refine ImZq.i fun h => ?_ | refine IkZq.i fun hk => ?_)
    by_cases h2 : st = 2
    · subst h2
      repeat' (first
        | refine GZy_i_6i_LiJ e2 ?_ ?_ ?_ ?_ ?_ ?_ ?_ ?_
        | with_reducible first | exact BzZq.mk | refine Tw.ret ?_ | refine ImZq.i fun h => ?_ | refine IkZq.i fun hk => ?_)
      refine ⟨i + 1, by omega, by omega, TWk.fcanon env [] (by rfl) ?_⟩
      repeat' (first
        | exact s0
        | exact s1
        | exact s2
        | refine GZ_i_6i_LiJ ?_ ?_ ?_ ?_ ?_ ?_ ?_ ?_
        | with_reducible first | exact BzZq.mk | refine Tw.ret ?_ | refine ImZq.i fun h => ?_ | refine IkZq.i fun hk => ?_)
    rw [if_neg h0] at s0
    rw [if_neg h1] at s1
    rw [if_neg h2] at s2
    repeat' (first
      | refine GZy_i_6i_LiJ e2 ?_ ?_ ?_ ?_ ?_ ?_ ?_ ?_
      | with_reducible first | exact BzZq.mk | refine Tw.ret ?_ | refine ImZq.i fun h => ?_ | refine IkZq.i fun hk => ?_)
    refine ⟨i + 1, by omega, by omega, TWk.fcanon env [] (by rfl) ?_⟩
    repeat' (first
      | exact s0
      | exact s1
      | exact s2
      | refine GZ_i_6i_LiJ ?_ ?_ ?_ ?_ ?_ ?_ ?_ ?_
      | with_reducible first | exact BzZq.mk | refine Tw.ret ?_ | refine ImZq.i fun h => ?_ | refine IkZq.i fun hk => ?_)
  · obtain rfl : l.length = i := by omega
    repeat' (first
      | refine GZp_i_6i_LiJ ?_ ?_ ?_ ?_ ?_ ?_ ?_ ?_
      | with_reducible first | exact BzZq.mk | refine Tw.ret ?_ | refine ImZq.i fun h => ?_ | refine IkZq.i fun hk => ?_)
    exact ⟨rfl, rfl, rfl⟩
end Go.Proofs.Ytihminfnphichaa
