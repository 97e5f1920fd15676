/- Grids that are made from the values at their nodes. -/
import Derived.Test.YtkapjajlkpepmaaGrid5
import Derived.Test.YtkapjajlkpepmaaGo
namespace Go.Proofs.Ytkapjajlkpepmaa
open Go Go.Lite
set_option linter.unusedVariables false
set_option linter.unusedSimpArgs false
set_option maxRecDepth 100000
set_option maxHeartbeats 4000000
-- @simp rdi

/-- The values of a grid, one behind the other. -/
def gvals (out s inn : Nat) (Wn : (Nat → Nat) → Nat → Int) (j : Nat) : Int := Wn (dg s inn (j / out)) (j % out)
theorem gvals_at {out s inn n o : Nat} {Wn : (Nat → Nat) → Nat → Int} (ho : o < out) : gvals out s inn Wn (out * n + o) = Wn (dg s inn n) o := by
  unfold gvals
  rw [Nat.mul_add_div (by omega), Nat.div_eq_of_lt ho, Nat.add_zero, Nat.mul_add_mod, Nat.mod_eq_of_lt ho]
theorem gvals_app {out s inn n : Nat} {Wn : (Nat → Nat) → Nat → Int} : tab (out * n) (gvals out s inn Wn) ++ tab out (Wn (dg s inn n)) = tab (out * (n + 1)) (gvals out s inn Wn) := by
  refine ext_getD 0 (by simp [tab_len, Nat.mul_add]) fun i hi => ?_
  simp only [List.length_append, tab_len] at hi
  rw [tab_get (by rw [Nat.mul_add]; omega)]
  by_cases h : i < out * n
  · rw [getD_app1 (by rw [tab_len]; exact h), tab_get h]
  · have e := gvals_at (s := s) (inn := inn) (n := n) (Wn := Wn) (show i - out * n < out by omega)
    rw [getD_app2 (by rw [tab_len]; omega), tab_len, tab_get (by omega), ← e, show out * n + (i - out * n) = i by omega]
end Go.Proofs.Ytkapjajlkpepmaa
