/- Compressed bitmaps: a bit is handed to the encoder. -/
import Derived.Test.YtjedljdfkoagbaaBl1
import Derived.Test.YtjedljdfkoagbaaGo
namespace Go.Proofs.Ytjedljdfkoagbaa
open Go Go.Lite
set_option linter.unusedVariables false
set_option linter.unusedSimpArgs false
set_option maxRecDepth 100000
set_option maxHeartbeats 4000000
-- @simp rdi rdy

/-- The rows of a coder's function: the error, the encoder's place, the encoder. -/
def enP (f : Bool) (s : ES) (kk : Nat) : TH A :=
  match f with
  | true => [some (.cells [.int .i64 0]), some (.cells [.ptr 2 0]), some (.cells [.sla 2 3 0 s.cs.length, .int .u32 s.w, .int .i64 kk, .int .u32 (low s.V), .sla 1 4 0 s.n, .bool false]), some (.arr E2w s.cs), some (.arr Ey (top s.n s.V))]
  | false => [some (.cells [.int .i64 0]), some (.cells [.ptr 2 0]), some (.cells [.sla 2 3 0 s.cs.length, .int .u32 s.w, .int .i64 kk, .int .u32 (low s.V), .sla 1 5 0 s.n, .bool false]), some (.arr E2w s.cs), none, some (.arr Ey (top s.n s.V))]
def emits (s : ES) (i t : Nat) : Bool := decide (pW s.cs s.w i t < 16777216)
theorem put1_c (s : ES) (kk i t : Nat) (I T : Int) (eI : I = i) (eT : T = t) (so : ESOk 2049 kk s) (hi : i < 2049) (ht : t ≤ 1) (hk : kk ≤ 1000000) :
    TC R Try.prog bilevel_packed_1_f [.int .i64 I, .int .i64 T, .ptr 0 0, .ptr 1 0] (enP true s kk) (fun v X => v = .int .i64 t ∧ X = enP (!emits s i t) (estep s i t) (kk + 1)) := by
  subst eI
  subst eT
  have hn := so.n
  have pc := put_c s.cs s.w kk i t s.V s.n (by rw [so.len]; exact hi) so.cx (by rw [so.len]; decide) so.w (by omega) ht (by omega)
  by_cases hw : pW s.cs s.w i t < 16777216
  · have e2 : estep s i t = ⟨lrnC s.cs i t, pW s.cs s.w i t * 256, pV s.cs s.w i t s.V * 256, s.n + 1⟩ := if_pos hw
    have e3 : emits s i t = true := decide_eq_true hw
    simp only [if_pos hw] at pc
    rw [e2, e3]
    dsimp only [enR, enX, Bool.not_true] at pc ⊢
    refine tc env bilevel_packed_1_s (by rfl) ?_
    dsimp only [bilevel_packed_1_c, enP]
    repeat' (first
      | ((with_reducible refine TDr.any ?_); refine TDr.callHF env [2, 3, 4] (pc) (by first | rfl | assumption) (by rfl) (by rfl) (by rfl) (by rfl) (by rfl) (fun _ => by rfl) (fun _ => by repeat' (first | exact trivial | refine ⟨rfl, ?_⟩)) (by rfl) (by rfl) (by rfl) ?_)
      | refine GZp_i_y ?_ ?_ ?_ ?_ ?_ ?_ ?_ ?_
      | with_reducible first | exact BzZq.mk | refine Tw.ret ?_ | refine ImZq.i fun h => ?_ | refine IkZq.i fun hk => ?_)
    exact ⟨rfl, rfl⟩
  · have e2 : estep s i t = ⟨lrnC s.cs i t, pW s.cs s.w i t, pV s.cs s.w i t s.V, s.n⟩ := if_neg hw
    have e3 : emits s i t = false := decide_eq_false hw
    simp only [if_neg hw] at pc
    rw [e2, e3]
    dsimp only [enR, enX, Bool.not_false] at pc ⊢
    refine tc env bilevel_packed_1_s (by rfl) ?_
    dsimp only [bilevel_packed_1_c, enP]
    repeat' (first
      | ((with_reducible refine TDr.any ?_); refine TDr.callHD env [2, 3, 4] (pc) (by first | rfl | assumption) (by rfl) (by rfl) (by rfl) (by rfl) (by rfl) (fun _ => by rfl) (fun _ => by repeat' (first | exact trivial | refine ⟨rfl, ?_⟩)) (fun _ => by rfl) (fun _ => by rfl) ?_)
      | refine GZp_i_y ?_ ?_ ?_ ?_ ?_ ?_ ?_ ?_
      | with_reducible first | exact BzZq.mk | refine Tw.ret ?_ | refine ImZq.i fun h => ?_ | refine IkZq.i fun hk => ?_)
    exact ⟨rfl, rfl⟩
end Go.Proofs.Ytjedljdfkoagbaa
