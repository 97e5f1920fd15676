/- Links: Convert with its error. -/
import Derived.Test.YtogbkhopanaoiaaCnd6
import Derived.Test.YtogbkhopanaoiaaRInts
import Derived.Test.YtogbkhopanaoiaaRRound
import Derived.Test.YtogbkhopanaoiaaGo
namespace Go.Proofs.Ytogbkhopanaoiaa
open Go Go.Lite
set_option linter.unusedVariables false
set_option linter.unusedSimpArgs false
set_option maxRecDepth 100000
set_option maxHeartbeats 4000000
-- @simp rdi rd2i rdy

theorem dl_ok {a b c : Int} {vals : List Int} (h : dlE a b c vals = 0) : ∃ inn out s : Nat, a = inn ∧ b = out ∧ c = s ∧ GOk inn out s vals ∧ inFull vals := by
  have h3 := h
  unfold dlE at h3
  split at h3
  · rename_i h4; exact absurd h3 h4
  rename_i h4
  obtain ⟨inn, out, s, rfl, rfl, rfl, g⟩ := chk_ok (show chkE a b c vals = 0 by simpa using h4)
  refine ⟨inn, out, s, rfl, rfl, rfl, g, fun v hv => ?_⟩
  obtain ⟨k, hk, rfl⟩ := mem_getD (d := 0) hv
  have h5 := fstE_zero.1 h3 k hk
  unfold dlF at h5
  split at h5
  · omega
  · omega
theorem tones_nat {xs : List Int} {n : Nat} (h : tonesE xs n = 0) : ∃ ys : List Nat, xs = nz ys ∧ ys.length = n ∧ ∀ i, i < n → ys.getD i 0 ≤ 255 := by
  obtain ⟨h1, h2⟩ := tonesE_ok.1 h
  refine ⟨tab n fun i => (xs.getD i 0).toNat, ?_, tab_len, fun i hi => ?_⟩
  · refine ext_getD 0 (by rw [nz_len, tab_len]; omega) fun i hi => ?_
    rw [nz_get, tab_get (by omega)]
    have := h2 i hi
    omega
  · rw [tab_get hi]
    have := h2 i (by omega)
    omega
end Go.Proofs.Ytogbkhopanaoiaa
