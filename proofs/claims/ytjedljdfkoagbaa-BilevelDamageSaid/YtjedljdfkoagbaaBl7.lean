/- Compressed bitmaps: a stripe is unpacked. -/
import Derived.Test.YtjedljdfkoagbaaBl6
import Derived.Test.YtjedljdfkoagbaaGo
namespace Go.Proofs.Ytjedljdfkoagbaa
open Go Go.Lite
set_option linter.unusedVariables false
set_option linter.unusedSimpArgs false
set_option maxRecDepth 100000
set_option maxHeartbeats 4000000
-- @simp rdi rdy

/-- A stripe is unpacked to a bitmap of these pixels. -/
def UnpC (q : List Int) (w k : Nat) (g : Nat → Nat → Bool) : Prop :=
  TC R Try.prog bilevel_Unpack_f [.lst Ey q, .int .i64 w, .int .i64 k] [] (fun v X => v = .tup [.agg [.int .i64 w, .int .i64 k, .sla 1 0 0 (st w * k)], .int .i64 0] ∧ X = [some (.arr Ey (bm w k g))])
theorem unpack_c (w k : Nat) (f : Nat → Nat → Bool) (sm : Nat → Bool) (q : List Int) (hw : 1 ≤ w ∧ w ≤ 1024) (hk : 1 ≤ k ∧ k ≤ 64) (L : List (Nat × Nat)) (hL : L = evs w k f sm k)
    (hs : ∀ y, y < k → sm y = true → ∀ x, x < w → f x y = abv f y x) (hH : ∀ j, j < L.length → dbit (dRun 2049 q (ctx L) j) (ctx L j) = bitA L j)
    (hq : q.length ≤ 1048576) (hqb : ∀ i, i < q.length → 0 ≤ q.getD i 0 ∧ q.getD i 0 ≤ 255) :
    UnpC q w k f := by
  have pd := passD w k f sm q hw hk L hL hs hH (by omega) hqb
  obtain ⟨cs, hcs⟩ : ∃ cs : Cx, cs = List.replicate 2049 (0, 0) := ⟨_, rfl⟩
  have lc : cs.length = 2049 := by rw [hcs]; simp
  have nc := newDec_c cs (by unfold Cx0; rw [lc]; exact hcs) q (by omega) (by omega) hqb
  have e0 : dRun 2049 q (ctx L) 0 = ⟨cs, 4294967295, val q 4, 4⟩ := by rw [hcs]; rfl
  rw [e0] at pd
  rw [show (cs.length : Int) = 2049 by omega] at nc
  dsimp only [deR] at nc
  have bc := blank_c w k hw (show 1 ≤ k ∧ k ≤ 1024 by omega)
  have b0 : (bm w k fun _ _ => false) = bm w k (upR f 0) := bm_congr fun x v _ _ => by unfold upR; simp
  rw [b0] at bc
  have bf : bm w k (upR f k) = bm w k f := bm_congr fun x v _ hv => by unfold upR; rw [decide_eq_true hv, Bool.true_and]
  rw [bf] at pd
  have hbl := bm_len (w := w) (h := k) (f := f)
  have hle : 0 + st w * k ≤ (bm w k f).length := by omega
  have raw : TC R Try.prog bilevel_Unpack_f [.lst Ey q, .int .i64 w, .int .i64 k] [] (fun v X => v = .tup [.agg [.int .i64 w, .int .i64 k, .sla 1 1 0 (st w * k)], .int .i64 0] ∧ ∃ a, X = [a, some (.arr Ey (bm w k f))]) := by
    refine tc env bilevel_Unpack_s (by rfl) ?_
    dsimp only [bilevel_Unpack_c]
    repeat' (first
      | ((with_reducible refine TOps.any ?_); refine TOps.callV env (by rfl) (by rfl) (by rfl) (nc) ?_)
      | ((with_reducible refine TOps.any ?_); refine TOps.callV env (by rfl) (by rfl) (by rfl) (bc) ?_)
      | ((with_reducible refine TOps.any ?_); refine TOps.callHE env [7, 6, 5, 4, 1, 2, 3] (pd) (by rfl) (by rfl) (by rfl) (by rfl) (by rfl) (by rfl) (by repeat' (first | exact trivial | refine ⟨rfl, ?_⟩)) ?_)
      | exact hle
      | ((with_reducible refine Tw.retI ?_); refine Tw.gc env [0, 6] [6, 7] (by rfl) (by rfl) ?_ (Tw.ret ?_))
      | refine GZp_i_y ?_ ?_ ?_ ?_ ?_ ?_ ?_ ?_
      | with_reducible first | exact BzZq.mk | refine Tw.ret ?_ | refine ImZq.i fun h => ?_ | refine IkZq.i fun hk => ?_)
    exact ⟨rfl, _, rfl⟩
  refine raw.wk fun v X h => ?_
  obtain ⟨rfl, a, rfl⟩ := h
  exact ⟨_, _, TWk.fcanon env [some 1] (by rfl) (by repeat' (first | exact trivial | refine ⟨rfl, ?_⟩)), rfl, rfl⟩
end Go.Proofs.Ytjedljdfkoagbaa
