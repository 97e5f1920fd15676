/- Range coder: an encoder begins, a decoder takes its next byte. -/
import Derived.Test.YtjedljdfkoagbaaRc3
import Derived.Test.YtjedljdfkoagbaaGo
namespace Go.Proofs.Ytjedljdfkoagbaa
open Go Go.Lite
set_option linter.unusedVariables false
set_option linter.unusedSimpArgs false
set_option maxRecDepth 100000
set_option maxHeartbeats 4000000
-- @simp rdi rdy

theorem begin_c (n : Nat) (hn : 1 ≤ n ∧ n ≤ 4096) :
    TC R Try.prog rangecoder_begin_f [.int .i64 n] [] (fun v X => v = .tup [.agg [.sla 2 0 0 n, .int .u32 4294967295, .int .i64 0], .int .i64 0] ∧ X = [some (.arr E2w (List.replicate n (0, 0)))]) := by
  have raw : TC R Try.prog rangecoder_begin_f [.int .i64 n] [] (fun v X => v = .tup [.agg [.sla 2 1 0 n, .int .u32 4294967295, .int .i64 0], .int .i64 0] ∧ X = [some (.cells [.sla 2 1 0 n, .int .u32 4294967295, .int .i64 0]), some (.arr E2w (List.replicate n (0, 0)))]) := by
    refine tc env rangecoder_begin_s (by rfl) ?_
    dsimp only [rangecoder_begin_c]
    repeat' (first
      | refine GZp_i_y ?_ ?_ ?_ ?_ ?_ ?_ ?_ ?_
      | with_reducible first | exact BzZq.mk | refine Tw.ret ?_ | refine ImZq.i fun h => ?_ | refine IkZq.i fun hk => ?_)
    exact ⟨rfl, rfl⟩
  refine raw.wk fun v X h => ?_
  obtain ⟨rfl, rfl⟩ := h
  exact ⟨_, _, TWk.fcanon env [some 1] (by rfl) (by repeat' (first | exact trivial | refine ⟨rfl, ?_⟩)), rfl, rfl⟩

theorem newEnc_c (n : Nat) (hn : 1 ≤ n ∧ n ≤ 4096) :
    TC R Try.prog rangecoder_NewEncoder_f [.int .i64 n] [] (fun v X => v = .tup [.ptr 0 0, .int .i64 0] ∧ X = [some (.cells [.sla 2 1 0 n, .int .u32 4294967295, .int .i64 0, .int .u32 0, .sla 1 2 0 0, .bool false]), some (.arr E2w (List.replicate n (0, 0))), some (.arr Ey [])]) := by
  have bc := begin_c n hn
  have raw : TC R Try.prog rangecoder_NewEncoder_f [.int .i64 n] [] (fun v X => v = .tup [.ptr 2 0, .int .i64 0] ∧ X = [some (.arr E2w (List.replicate n (0, 0))), some (.cells [.sla 2 0 0 n, .int .u32 4294967295, .int .i64 0]), some (.cells [.sla 2 0 0 n, .int .u32 4294967295, .int .i64 0, .int .u32 0, .nils, .bool false])]) := by
    refine tc env rangecoder_NewEncoder_s (by rfl) ?_
    dsimp only [rangecoder_NewEncoder_c]
    repeat' (first
      | ((with_reducible refine TOps.any ?_); refine TOps.callV env (by rfl) (by rfl) (by rfl) (bc) ?_)
      | refine GZp_i_y ?_ ?_ ?_ ?_ ?_ ?_ ?_ ?_
      | with_reducible first | exact BzZq.mk | refine Tw.ret ?_ | refine ImZq.i fun h => ?_ | refine IkZq.i fun hk => ?_)
    exact ⟨rfl, rfl⟩
  refine raw.wk fun v X h => ?_
  obtain ⟨rfl, rfl⟩ := h
  exact ⟨_, _, TWk.fcanon env [some 2, some 0, none] (by rfl) (by repeat' (first | exact trivial | refine ⟨rfl, ?_⟩)), rfl, rfl⟩

/-- No context has seen a bit. -/
def Cx0 (cs : Cx) : Prop := cs = List.replicate cs.length (0, 0)
theorem begin_z (cs : Cx) (h0 : Cx0 cs) (hn : 1 ≤ cs.length ∧ cs.length ≤ 4096) :
    TC R Try.prog rangecoder_begin_f [.int .i64 cs.length] [] (fun v X => v = .tup [.agg [.sla 2 0 0 cs.length, .int .u32 4294967295, .int .i64 0], .int .i64 0] ∧ X = [some (.arr E2w cs)]) := by
  have := begin_c cs.length hn
  rw [← h0] at this; exact this
theorem newEnc_z (cs : Cx) (h0 : Cx0 cs) (hn : 1 ≤ cs.length ∧ cs.length ≤ 4096) :
    TC R Try.prog rangecoder_NewEncoder_f [.int .i64 cs.length] [] (fun v X => v = .tup [.ptr 0 0, .int .i64 0] ∧ X = enR cs 4294967295 0 0 0 []) := by
  have := newEnc_c cs.length hn
  rw [← h0] at this; exact this

/-- The rows of a decoder that has taken p bytes. -/
def deR (cs : Cx) (w b co : Int) (q : List Int) (p : Nat) : TH A := [some (.cells [.sla 2 1 0 cs.length, .int .u32 w, .int .i64 b, .int .u32 co, .sla 1 2 (min p q.length) (q.length - p)]), some (.arr E2w cs), some (.arr Ey q)]

theorem next_c (cs : Cx) (w b co : Int) (q : List Int) (p : Nat) (hq : q.length ≤ 2097152) (hb : ∀ i, i < q.length → 0 ≤ q.getD i 0 ∧ q.getD i 0 ≤ 255) :
    TC R Try.prog __rangecoder_Decoder__next_f [.ptr 0 0] (deR cs w b co q p) (fun v X => v = .int .u32 (q.getD p 0) ∧ X = deR cs w b co q (p + 1)) := by
  refine tc env __rangecoder_Decoder__next_s (by rfl) ?_
  dsimp only [__rangecoder_Decoder__next_c, deR]
  rcases Nat.lt_or_ge p q.length with h1 | h1
  · have h2 := hb p h1
    have m1 : min p q.length = p := by omega
    rw [m1, show min (p + 1) q.length = p + 1 by omega]
    repeat' (first
      | refine GZp_i_y ?_ ?_ ?_ ?_ ?_ ?_ ?_ ?_
      | with_reducible first | exact BzZq.mk | refine Tw.ret ?_ | refine ImZq.i fun h => ?_ | refine IkZq.i fun hk => ?_)
    refine ⟨congrArg (TV.int IntKind.u32) ?_, ?_⟩
    · rw [show Int.toNat 0 + p = p from Nat.zero_add p]
      exact Int.emod_eq_of_lt (a := q.getD p 0) h2.1 (by have := h2.2; omega)
    · rw [show Int.toNat 1 + p = p + 1 from Nat.add_comm 1 p, show q.length - p - Int.toNat 1 = q.length - (p + 1) from Nat.sub_sub ..]
  · rw [show min p q.length = q.length by omega, show min (p + 1) q.length = q.length by omega, show q.length - p = 0 by omega, show q.length - (p + 1) = 0 by omega]
    have h2 : q.getD p 0 = 0 := by rw [List.getD_eq_getElem?_getD, List.getElem?_eq_none h1]; rfl
    repeat' (first
      | refine GZp_i_y ?_ ?_ ?_ ?_ ?_ ?_ ?_ ?_
      | with_reducible first | exact BzZq.mk | refine Tw.ret ?_ | refine ImZq.i fun h => ?_ | refine IkZq.i fun hk => ?_)
    exact ⟨congrArg (TV.int IntKind.u32) h2.symm, rfl⟩
end Go.Proofs.Ytjedljdfkoagbaa
