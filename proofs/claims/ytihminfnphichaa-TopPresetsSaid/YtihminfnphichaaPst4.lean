/- A plate becomes a bitmap, or is refused. -/
import Derived.Test.YtihminfnphichaaPst1
import Derived.Test.YtihminfnphichaaHft2
namespace Go.Proofs.Ytihminfnphichaa
open Go Go.Lite
set_option linter.unusedVariables false
set_option linter.unusedSimpArgs false
set_option maxRecDepth 100000
set_option maxHeartbeats 4000000

theorem apply_any (w h a b k : Int) (pix : List Int) (hl : pix.length ≤ 9223372036854775807) (hb : ∀ i, i < pix.length → 0 ≤ pix.getD i 0 ∧ pix.getD i 0 ≤ 255) :
    (∃ e : Int, e ≠ 0 ∧ TC R Try.prog halftone_Apply_f [.agg [.int .i64 w, .int .i64 h, .lst Ey pix], .agg [.int .i64 a, .int .i64 b, .int .i64 k]] [] (fun v X => v = .tup [.agg [.int .i64 0, .int .i64 0, .nils], .int .i64 e] ∧ X = [])) ∨
    (∃ q : Bq, (1 ≤ q.1 ∧ q.1 ≤ 1024) ∧ (1 ≤ q.2.1 ∧ q.2.1 ≤ 1024) ∧ TC R Try.prog halftone_Apply_f [.agg [.int .i64 w, .int .i64 h, .lst Ey pix], .agg [.int .i64 a, .int .i64 b, .int .i64 k]] [] (fun v X => v = .tup [.agg [.int .i64 q.1, .int .i64 q.2.1, .lst Ey (bm q.1 q.2.1 q.2.2)], .int .i64 0] ∧ X = [])) := by
  by_cases hp : pchk w h pix.length = 0
  · by_cases hs : schk a b k = 0
    · obtain ⟨w', h', rfl, rfl, e3, e4, e5⟩ := pchk_ok hp
      obtain ⟨P, f, g, oc, F⟩ := of_ex a b k hs
      obtain ⟨_, _, _, _, _, _, _, n1, n2⟩ := schk_ok hs
      obtain ⟨n, en⟩ : ∃ n : Nat, a * a + b * b = n := ⟨(a * a + b * b).toNat, by omega⟩
      exact .inr ⟨(w', h', hdot (rks a b k P f g n) P f g (dotT n) w' pix), e3, e4, apply_c hs F oc n (by unfold Due; exact en) w' h' pix e3 e4 e5 hb⟩
    · exact .inl ⟨_, hs, apply_bad w h a b k pix hl _ (if_neg (fun h => h hp)) hs⟩
  · exact .inl ⟨_, hp, apply_bad w h a b k pix hl _ (if_pos hp) hp⟩
end Go.Proofs.Ytihminfnphichaa
