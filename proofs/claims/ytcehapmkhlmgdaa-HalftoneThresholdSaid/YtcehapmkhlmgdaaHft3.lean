/- Halftone: what is said of bad plates; empty bitmaps. -/
import Derived.Test.YtcehapmkhlmgdaaHftW
import Derived.Test.YtcehapmkhlmgdaaBits3
import Derived.Test.YtcehapmkhlmgdaaGo
namespace Go.Proofs.Ytcehapmkhlmgdaa
open Go Go.Lite
set_option linter.unusedVariables false
set_option linter.unusedSimpArgs false
set_option maxRecDepth 100000
set_option maxHeartbeats 4000000
-- @simp rdi rdy

theorem fromPlate_n (w h : Int) (p : List Int) (t : Int) (hl : Due (p.length ≤ 9223372036854775807)) (hb : pchk w h p.length ≠ 0) :
    TC R Try.prog bitmap_FromPlate_f [.agg [.int .i64 w, .int .i64 h, .lst Ey p], .int .i64 t] [] (fun v X => v = .tup [.agg [.int .i64 0, .int .i64 0, .nils], .int .i64 (pchk w h p.length)] ∧ X = []) := by
  have pc := plate_c w h p hl
  generalize pchk w h p.length = e at *
  refine tc0 env bitmap_FromPlate_s (by rfl) ?_
  dsimp only [bitmap_FromPlate_c]
  repeat' (first
    | ((with_reducible refine TOps.any ?_); refine TOps.callV env (by rfl) (by rfl) (by rfl) (pc) ?_)
    | refine GZp_i_y ?_ ?_ ?_ ?_ ?_ ?_ ?_ ?_
    | with_reducible first | exact BzZq.mk | refine Tw.ret ?_ | refine ImZq.i fun h => ?_ | refine IkZq.i fun hk => ?_)
  exact ⟨rfl, rfl, rfl⟩
theorem sameNone_c : TC R Try.prog R2_SameBits_f [.agg [.int .i64 0, .int .i64 0, .nils], .agg [.int .i64 0, .int .i64 0, .nils]] [] (fun v X => v = .bool true ∧ X = []) := .ev (n := 100) (d := 5) env (find_ok _ tblHft_ok) (by kernel_rfl)
theorem bmBy (w h : Nat) (f : Nat → Nat → Bool) : ∀ i, i < (bm w h f).length → 0 ≤ (bm w h f).getD i 0 ∧ (bm w h f).getD i 0 ≤ 255 := fun i hi => bm_bd (by rw [bm_len] at hi; exact hi)
theorem dot_get {n : Nat} {v : Int} (h : 0 ≤ v ∧ v ≤ 255) : (dotT n).getD v.toNat 0 = dotV n v := by
  unfold dotT
  rw [tab_get (by omega), Int.toNat_of_nonneg h.1]
end Go.Proofs.Ytcehapmkhlmgdaa
