/- Compressed bitmaps: a stripe is packed. -/
import Derived.Test.YtjedljdfkoagbaaBl3
import Derived.Test.YtjedljdfkoagbaaGo
namespace Go.Proofs.Ytjedljdfkoagbaa
open Go Go.Lite
set_option linter.unusedVariables false
set_option linter.unusedSimpArgs false
set_option maxRecDepth 100000
set_option maxHeartbeats 4000000
-- @simp rdi rdy

/-- The bytes of a stripe. -/
def stripeB (w k : Nat) (f : Nat → Nat → Bool) : List Int := bytesOf (eRun 2049 (ctx (evs w k f (sameR w f) k)) (bitA (evs w k f (sameR w f) k)) (evs w k f (sameR w f) k).length)
theorem packed_c (w k : Nat) (f : Nat → Nat → Bool) (hw : 1 ≤ w ∧ w ≤ 1024) (hk : 1 ≤ k ∧ k ≤ 64) :
    TC R Try.prog bilevel_packed_f [.ptr 0 0] [some (.cells [.int .i64 w, .int .i64 k, .lst Ey (bm w k f)])]
      (fun v X => v = .tup [.sla 1 1 0 (stripeB w k f).length, .int .i64 0] ∧ X = [some (.cells [.int .i64 w, .int .i64 k, .lst Ey (bm w k f)]), some (.arr Ey (stripeB w k f))]) := by
  obtain ⟨L, hL⟩ : ∃ L, L = evs w k f (sameR w f) k := ⟨_, rfl⟩
  have pe := passE w k f hw hk L hL
  have lb : L.length ≤ 65600 := by
    have h1 := evs_le (w := w) (h := k) (f := f) (sm := sameR w f) (y := k)
    have h2 : k * (w + 1) ≤ 64 * 1025 := Nat.mul_le_mul (by omega) (by omega)
    rw [hL]; omega
  have so : ESOk 2049 L.length (eRun 2049 (ctx L) (bitA L) L.length) := eRun_ok fun j hj => by rw [hL] at hj ⊢; exact evs_all hj
  unfold stripeB
  rw [← hL, bytes_len]
  unfold bytesOf
  obtain ⟨cs, hcs⟩ : ∃ cs : Cx, cs = List.replicate 2049 (0, 0) := ⟨_, rfl⟩
  have lc : cs.length = 2049 := by rw [hcs]; simp
  have nc := newEnc_z cs (by unfold Cx0; rw [lc]; exact hcs) (by omega)
  have e0 : eRun 2049 (ctx L) (bitA L) 0 = ⟨cs, 4294967295, 0, 0⟩ := by rw [hcs]; rfl
  rw [e0] at pe
  obtain ⟨s, hs⟩ : ∃ s, s = eRun 2049 (ctx L) (bitA L) L.length := ⟨_, rfl⟩
  rw [← hs] at pe so ⊢
  have cl := close_c s.cs s.w L.length s.V s.n (by rw [so.len]; omega) (by have := so.n; omega)
  rw [show (cs.length : Int) = 2049 by omega] at nc
  dsimp only [enR] at nc cl
  cases hz : zN s
  · rw [hz] at pe
    dsimp only [paR] at pe
    have raw : TC R Try.prog bilevel_packed_f [.ptr 0 0] [some (.cells [.int .i64 w, .int .i64 k, .lst Ey (bm w k f)])]
      (fun v X => v = .tup [.sla 1 7 0 (lz (dg (s.n + 4) s.V) (s.n + 4)), .int .i64 0] ∧ ∃ a b c d e g, X = [some (.cells [.int .i64 w, .int .i64 k, .lst Ey (bm w k f)]), a, b, c, d, e, g, some (.arr Ey (cut (dg (s.n + 4) s.V) 0 (lz (dg (s.n + 4) s.V) (s.n + 4))))]) := by
      refine tc env bilevel_packed_s (by rfl) ?_
      dsimp only [bilevel_packed_c]
      repeat' (first
        | ((with_reducible refine TOps.any ?_); refine TOps.callV env (by rfl) (by rfl) (by rfl) (nc) ?_)
        | ((with_reducible refine TOps.any ?_); refine TOps.callHE env [0, 5, 4, 1, 2, 3] (pe) (by rfl) (by rfl) (by rfl) (by rfl) (by rfl) (by rfl) (by repeat' (first | exact trivial | refine ⟨rfl, ?_⟩)) ?_)
        | ((with_reducible refine TOps.any ?_); refine TOps.callHE env [1, 2, 6] (cl) (by rfl) (by rfl) (by rfl) (by rfl) (by rfl) (by rfl) (by repeat' (first | exact trivial | refine ⟨rfl, ?_⟩)) ?_)
        | refine GZp_i_y ?_ ?_ ?_ ?_ ?_ ?_ ?_ ?_
        | with_reducible first | exact BzZq.mk | refine Tw.ret ?_ | refine ImZq.i fun h => ?_ | refine IkZq.i fun hk => ?_)
      exact ⟨rfl, _, _, _, _, _, _, rfl⟩
    refine raw.wk fun v X h => ?_
    obtain ⟨rfl, a, b, c, d, e, g, rfl⟩ := h
    refine ⟨_, [some (.cells [.int .i64 w, .int .i64 k, .lst Ey (bm w k f)]), some (.arr Ey (cut (dg (s.n + 4) s.V) 0 (lz (dg (s.n + 4) s.V) (s.n + 4))))], TWk.fcanon env [some 0, some 7] (F' := [(0, .tup [.sla 1 1 0 (lz (dg (s.n + 4) s.V) (s.n + 4)), .int .i64 0])]) (by rfl) ?_, rfl, rfl⟩
    repeat' (first | exact trivial | refine ⟨rfl, ?_⟩)
  · rw [hz] at pe
    dsimp only [paR] at pe
    have raw : TC R Try.prog bilevel_packed_f [.ptr 0 0] [some (.cells [.int .i64 w, .int .i64 k, .lst Ey (bm w k f)])]
      (fun v X => v = .tup [.sla 1 6 0 (lz (dg (s.n + 4) s.V) (s.n + 4)), .int .i64 0] ∧ ∃ a b c d e, X = [some (.cells [.int .i64 w, .int .i64 k, .lst Ey (bm w k f)]), a, b, c, d, e, some (.arr Ey (cut (dg (s.n + 4) s.V) 0 (lz (dg (s.n + 4) s.V) (s.n + 4))))]) := by
      refine tc env bilevel_packed_s (by rfl) ?_
      dsimp only [bilevel_packed_c]
      repeat' (first
        | ((with_reducible refine TOps.any ?_); refine TOps.callV env (by rfl) (by rfl) (by rfl) (nc) ?_)
        | ((with_reducible refine TOps.any ?_); refine TOps.callHE env [0, 5, 4, 1, 2, 3] (pe) (by rfl) (by rfl) (by rfl) (by rfl) (by rfl) (by rfl) (by repeat' (first | exact trivial | refine ⟨rfl, ?_⟩)) ?_)
        | ((with_reducible refine TOps.any ?_); refine TOps.callHE env [1, 2, 3] (cl) (by rfl) (by rfl) (by rfl) (by rfl) (by rfl) (by rfl) (by repeat' (first | exact trivial | refine ⟨rfl, ?_⟩)) ?_)
        | refine GZp_i_y ?_ ?_ ?_ ?_ ?_ ?_ ?_ ?_
        | with_reducible first | exact BzZq.mk | refine Tw.ret ?_ | refine ImZq.i fun h => ?_ | refine IkZq.i fun hk => ?_)
      exact ⟨rfl, _, _, _, _, _, rfl⟩
    refine raw.wk fun v X h => ?_
    obtain ⟨rfl, a, b, c, d, e, rfl⟩ := h
    refine ⟨_, [some (.cells [.int .i64 w, .int .i64 k, .lst Ey (bm w k f)]), some (.arr Ey (cut (dg (s.n + 4) s.V) 0 (lz (dg (s.n + 4) s.V) (s.n + 4))))], TWk.fcanon env [some 0, some 6] (F' := [(0, .tup [.sla 1 1 0 (lz (dg (s.n + 4) s.V) (s.n + 4)), .int .i64 0])]) (by rfl) ?_, rfl, rfl⟩
    repeat' (first | exact trivial | refine ⟨rfl, ?_⟩)

end Go.Proofs.Ytjedljdfkoagbaa
