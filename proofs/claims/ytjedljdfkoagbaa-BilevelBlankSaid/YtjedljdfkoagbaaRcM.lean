/- Range coder: what is encoded is decoded (plain). -/
import Derived.Test.YtjedljdfkoagbaaRc8
namespace Go.Proofs.Ytjedljdfkoagbaa
open Go Go.Lite
set_option linter.unusedVariables false
set_option linter.unusedSimpArgs false
set_option maxRecDepth 100000
set_option maxHeartbeats 4000000

/-- The bytes are those that Close hands out, or have zeros behind them. -/
def Same (s : ES) (q : List Int) : Prop := ∀ i, q.getD i 0 = (dg (s.n + 4) s.V).getD i 0
theorem same_bytes (s : ES) (m : Nat) : Same s (bytesOf s ++ List.replicate m 0) := by
  intro i
  have lb := bytes_len (s := s)
  have ll := lz_le (L := dg (s.n + 4) s.V) (m := s.n + 4)
  have dl : (dg (s.n + 4) s.V).length = s.n + 4 := dg_len
  rcases Nat.lt_or_ge i (bytesOf s).length with h | h
  · rw [getD_app1 h]
    unfold bytesOf
    rw [cut_eq, getD_sub (by omega), Nat.zero_add]
  · have e : (bytesOf s ++ List.replicate m (0 : Int)).getD i 0 = 0 := by
      rw [getD_app2 h]
      rcases Nat.lt_or_ge (i - (bytesOf s).length) m with h2 | h2
      · exact getD_repl h2
      · rw [List.getD_eq_getElem?_getD, List.getElem?_eq_none (by simpa using h2)]; rfl
    rw [e]
    rcases Nat.lt_or_ge i (s.n + 4) with h2 | h2
    · exact (lz_zero (by omega) h2).symm
    · rw [List.getD_eq_getElem?_getD, List.getElem?_eq_none (by omega)]; rfl

end Go.Proofs.Ytjedljdfkoagbaa
