/- Conditions: grey values; a link converts. -/
import Derived.Test.YtogbkhopanaoiaaCnd5
import Derived.Test.YtogbkhopanaoiaaDlk3
import Derived.Test.YtogbkhopanaoiaaGo
namespace Go.Proofs.Ytogbkhopanaoiaa
open Go Go.Lite
set_option linter.unusedVariables false
set_option linter.unusedSimpArgs false
set_option maxRecDepth 100000
set_option maxHeartbeats 4000000
-- @simp rdi rd2i rdy

theorem gray_y (c : Cnd) (s x : Nat) (w : CndW c) (h : CndOk c) (h0 : cndE c = 0) (es : c.gc = s) (g : GOk 1 c.inks.length s c.gv) (hv : inFull c.gv) (ea : c.ga = (1 : Nat)) (eb : c.gb = (c.inks.length : Nat)) (hx : x ≤ 255) :
    TC R Try.prog condition_Gray_f [.agg (encC c), .int .u8 x] [] (fun v X => v = .tup [.agg (inkA (quickL (dlQ c.gv c.inks.length s [x]) (blk c) c.tot)), .int .i64 0] ∧ X = []) := by
  have cc := condCheck_c c w
  rw [h0] at cc
  have fc := fromG_c c s [x] h es g hv ea eb rfl (fun i hi => by obtain rfl : i = 0 := by omega
                                                                 exact hx)
  obtain ⟨q, hq⟩ : ∃ q, q = quickL (dlQ c.gv c.inks.length s [x]) (blk c) c.tot := ⟨_, rfl⟩
  rw [← hq] at fc ⊢
  refine tc0 env condition_Gray_s (by rfl) ?_
  dsimp only [condition_Gray_c, encC]
  repeat' (first
    | ((with_reducible refine TOps.any ?_); refine TOps.callV env (by rfl) (by rfl) (by rfl) (cc) ?_)
    | ((with_reducible refine TOps.any ?_); refine TOps.callE env (by rfl) (by rfl) (by rfl) ?_ (fc) (by rfl) ?_)
    | refine GZp_i_2i_y ?_ ?_ ?_ ?_ ?_ ?_ ?_ ?_
    | with_reducible first | exact BzZq.mk | refine Tw.ret ?_ | refine ImZq.i fun h => ?_ | refine IkZq.i fun hk => ?_)
  exact ⟨rfl, rfl, rfl⟩
theorem gray_n (c : Cnd) (x : Int) (w : CndW c) (h0 : cndE c ≠ 0) :
    TC R Try.prog condition_Gray_f [.agg (encC c), .int .u8 x] [] (fun v X => v = .tup [.agg (inkA []), .int .i64 (cndE c)] ∧ X = []) := by
  have cc := condCheck_c c w
  refine tc0 env condition_Gray_s (by rfl) ?_
  dsimp only [condition_Gray_c, encC]
  repeat' (first
    | ((with_reducible refine TOps.any ?_); refine TOps.callV env (by rfl) (by rfl) (by rfl) (cc) ?_)
    | refine GZp_i_2i_y ?_ ?_ ?_ ?_ ?_ ?_ ?_ ?_
    | with_reducible first | exact BzZq.mk | refine Tw.ret ?_ | refine ImZq.i fun h => ?_ | refine IkZq.i fun hk => ?_)
  exact ⟨rfl, rfl, rfl⟩
end Go.Proofs.Ytogbkhopanaoiaa
