/- Links: Convert with its error. -/
import Derived.Test.YtogbkhopanaoiaaCnd6
import Derived.Test.YtogbkhopanaoiaaRInts
import Derived.Test.YtogbkhopanaoiaaRRound
import Derived.Test.YtogbkhopanaoiaaGo
namespace Go.Proofs.Ytogbkhopanaoiaa
open Go Go.Lite
set_option linter.unusedVariables false
set_option linter.unusedSimpArgs false
set_option maxRecDepth 100000
set_option maxHeartbeats 4000000
-- @simp rdi rd2i rdy

theorem dl_ok {a b c : Int} {vals : List Int} (h : dlE a b c vals = 0) : ∃ inn out s : Nat, a = inn ∧ b = out ∧ c = s ∧ GOk inn out s vals ∧ inFull vals := by
  have h3 := h
  unfold dlE at h3
  split at h3
  · rename_i h4; exact absurd h3 h4
  rename_i h4
  obtain ⟨inn, out, s, rfl, rfl, rfl, g⟩ := chk_ok (show chkE a b c vals = 0 by simpa using h4)
  refine ⟨inn, out, s, rfl, rfl, rfl, g, fun v hv => ?_⟩
  obtain ⟨k, hk, rfl⟩ := mem_getD (d := 0) hv
  have h5 := fstE_zero.1 h3 k hk
  unfold dlF at h5
  split at h5
  · omega
  · omega
noncomputable def cvE (a b c : Int) (vals xs : List Int) : Int := if dlE a b c vals ≠ 0 then dlE a b c vals else tonesE xs a
theorem convert_n (a b c : Int) (vals xs : List Int) (hl : vals.length ≤ 9223372036854775807) (hx : xs.length ≤ 9223372036854775807) (h : cvE a b c vals xs ≠ 0) :
    TC R Try.prog devicelink_Convert_f [.agg [.int .i64 a, .int .i64 b, .int .i64 c, .lst Ei vals], .lst Ei xs] [] (fun v X => v = .tup [.nils, .int .i64 (cvE a b c vals xs)] ∧ X = []) := by
  have dc := dlCheck_c a b c vals hl
  have tn := tones_c xs a hx
  refine tc0 env devicelink_Convert_s (by rfl) ?_
  dsimp only [devicelink_Convert_c]
  unfold cvE at h ⊢
  by_cases h0 : dlE a b c vals = 0
  · rw [h0] at dc h ⊢
    simp only [ne_eq, not_true_eq_false, if_false] at h ⊢
    repeat' (first
      | ((with_reducible refine TOps.any ?_); refine TOps.callV env (by rfl) (by rfl) (by rfl) (dc) ?_)
      | ((with_reducible refine TOps.any ?_); refine TOps.callV env (by rfl) (by rfl) (by rfl) (tn) ?_)
      | refine GZp_i_2i_y ?_ ?_ ?_ ?_ ?_ ?_ ?_ ?_
      | with_reducible first | exact BzZq.mk | refine Tw.ret ?_ | refine ImZq.i fun h => ?_ | refine IkZq.i fun hk => ?_)
    exact ⟨rfl, rfl, trivial⟩
  · rw [if_pos h0]
    repeat' (first
      | ((with_reducible refine TOps.any ?_); refine TOps.callV env (by rfl) (by rfl) (by rfl) (dc) ?_)
      | refine GZp_i_2i_y ?_ ?_ ?_ ?_ ?_ ?_ ?_ ?_
      | with_reducible first | exact BzZq.mk | refine Tw.ret ?_ | refine ImZq.i fun h => ?_ | refine IkZq.i fun hk => ?_)
    exact ⟨rfl, rfl, rfl⟩
theorem tones_nat {xs : List Int} {n : Nat} (h : tonesE xs n = 0) : ∃ ys : List Nat, xs = nz ys ∧ ys.length = n ∧ ∀ i, i < n → ys.getD i 0 ≤ 255 := by
  obtain ⟨h1, h2⟩ := tonesE_ok.1 h
  refine ⟨tab n fun i => (xs.getD i 0).toNat, ?_, tab_len, fun i hi => ?_⟩
  · refine ext_getD 0 (by rw [nz_len, tab_len]; omega) fun i hi => ?_
    rw [nz_get, tab_get (by omega)]
    have := h2 i hi
    omega
  · rw [tab_get hi]
    have := h2 i (by omega)
    omega
theorem gstep_q {inn out s : Nat} {vals : List Int} (g : GOk inn out s vals) : quo 65280 ((s : Int) - 1) = (gstep s : Int) := by
  have gsz := g.s1
  rw [quo_nn (by omega)]
  unfold gstep
  rw [show (s : Int) - 1 = ((s - 1 : Nat) : Int) by omega]
  exact (Int.natCast_ediv _ _).symm
theorem gstep_c (inn out s : Nat) (vals : List Int) (g : GOk inn out s vals) :
    TC R Try.prog grid_Step_f [.agg [.int .i64 inn, .int .i64 out, .int .i64 s, .lst Ei vals]] [] (fun v X => v = .tup [.int .i64 (gstep s : Nat), .int .i64 0] ∧ X = []) := by
  have cc := gcheck_c inn out s vals
  rw [g.chk] at cc
  have gsz := g.s1
  have gs := g.step
  have q1 := gstep_q g
  refine tc0 env grid_Step_s (by rfl) ?_
  dsimp only [grid_Step_c]
  repeat' (first
    | ((with_reducible refine TOps.any ?_); refine TOps.callV env (by rfl) (by rfl) (by rfl) (cc) ?_)
    | refine GZy_i_2i_y q1 ?_ ?_ ?_ ?_ ?_ ?_ ?_ ?_
    | with_reducible first | exact BzZq.mk | refine Tw.ret ?_ | refine ImZq.i fun h => ?_ | refine IkZq.i fun hk => ?_)
  rw [q1]
  exact ⟨rfl, rfl, rfl⟩
end Go.Proofs.Ytogbkhopanaoiaa
