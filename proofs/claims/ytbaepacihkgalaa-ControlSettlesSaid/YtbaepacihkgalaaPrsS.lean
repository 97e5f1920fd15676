/- Presses: without events densities come to rest. -/
import Derived.Test.YtbaepacihkgalaaPrsP
namespace Go.Proofs.Ytbaepacihkgalaa
open Go Go.Lite
set_option linter.unusedVariables false
set_option linter.unusedSimpArgs false
set_option maxRecDepth 100000
set_option maxHeartbeats 4000000

theorem nkU_ks {a : Un} {ld : List Int} : ∀ n, (nkU a ld n).ks = a.ks ∧ (nkU a ld n).gn = a.gn
  | 0 => ⟨rfl, rfl⟩
  | n + 1 => nkU_ks n
theorem nkU_len {a : Un} {ld : List Int} : ∀ n, (nkU a ld n).fl.length = a.fl.length
  | 0 => rfl
  | n + 1 => by rw [nkU, inkU, List.length_set]; exact nkU_len n
theorem nkU_fl {a : Un} {ld : List Int} {z : Nat} (hz : z < a.fl.length) : ∀ n, (nkU a ld n).fl.getD z 0 = if z < n then inkV (a.fl.getD z 0) (a.ks.getD z 0) a.gn (ld.getD z 0) else a.fl.getD z 0
  | 0 => rfl
  | n + 1 => by
    have ih := nkU_fl (ld := ld) hz n
    rw [nkU, inkU]
    show ((nkU a ld n).fl.set n _).getD z 0 = _
    by_cases e : z = n
    · subst e
      rw [getD_set_eq (by rw [nkU_len]; exact hz), if_pos (by omega), ih, if_neg (by omega), (nkU_ks z).1, (nkU_ks z).2]
    · rw [getD_set_ne (by omega), ih]
      by_cases h : z < n
      · rw [if_pos h, if_pos (by omega)]
      · rw [if_neg h, if_neg (by omega)]
end Go.Proofs.Ytbaepacihkgalaa
