/- The law DevicelinkDistances. -/
import Derived.Test.YtogbkhopanaoiaaDvl2
import Derived.Test.YtogbkhopanaoiaaDvlW
import Derived.Test.YtogbkhopanaoiaaXDevicelinkDistances1
import Derived.Test.YtogbkhopanaoiaaGo
namespace Go.Proofs.Ytogbkhopanaoiaa
open Go Go.Lite
set_option linter.unusedVariables false
set_option linter.unusedSimpArgs false
set_option maxRecDepth 100000
set_option maxHeartbeats 4000000
-- @simp rdi rd2i rdy rdL2iJ

theorem DevicelinkDistances_law (n1 : ByteArray) (i1 : List ByteArray) (c1 : List (List (Int × Int))) (a1 b1 s1 : Int) (v1 : List Int) (n2 : ByteArray) (i2 : List ByteArray) (c2 : List (List (Int × Int))) (a2 b2 s2 : Int) (v2 : List Int) (a b c : Int) (v xs : List Int)
    (w1 : n1.size ≤ 9223372036854775807) (w2 : i1.length ≤ 9223372036854775807 ∧ ∀ y ∈ i1, Ws y) (w3 : c1.length ≤ 9223372036854775807 ∧ ∀ y ∈ c1, WL2iJ y) (_ : rng .i64 a1) (_ : rng .i64 b1) (_ : rng .i64 s1) (w4 : v1.length ≤ 9223372036854775807 ∧ ∀ y ∈ v1, Wi y)
    (w1' : n2.size ≤ 9223372036854775807) (w2' : i2.length ≤ 9223372036854775807 ∧ ∀ y ∈ i2, Ws y) (w3' : c2.length ≤ 9223372036854775807 ∧ ∀ y ∈ c2, WL2iJ y) (_ : rng .i64 a2) (_ : rng .i64 b2) (_ : rng .i64 s2) (w4' : v2.length ≤ 9223372036854775807 ∧ ∀ y ∈ v2, Wi y)
    (_ : rng .i64 a) (_ : rng .i64 b) (_ : rng .i64 c) (w5 : v.length ≤ 9223372036854775807 ∧ ∀ y ∈ v, Wi y) (w6 : xs.length ≤ 9223372036854775807 ∧ ∀ y ∈ xs, Wi y) :
    TC R Try.prog K2_DevicelinkDistances_f [.agg [.str n1, .lst Es i1, .lst EL2iJ c1, .int .i64 a1, .int .i64 b1, .int .i64 s1, .lst Ei v1], .agg [.str n2, .lst Es i2, .lst EL2iJ c2, .int .i64 a2, .int .i64 b2, .int .i64 s2, .lst Ei v2], .agg [.int .i64 a, .int .i64 b, .int .i64 c, .lst Ei v], .lst Ei xs] [] (fun v X => v = .bool true ∧ X = []) := by
  obtain ⟨p, hp⟩ : ∃ p : Prf, p = ⟨n1, i1, c1, a1, b1, s1, v1⟩ := ⟨_, rfl⟩
  obtain ⟨q, hq⟩ : ∃ q : Prf, q = ⟨n2, i2, c2, a2, b2, s2, v2⟩ := ⟨_, rfl⟩
  have wp : PrfW p := by subst hp; exact ⟨w1, w2.1, w2.2, w3.1, w4.1⟩
  have wq : PrfW q := by subst hq; exact ⟨w1', w2'.1, w2'.2, w3'.1, w4'.1⟩
  have main : TC R Try.prog K2_DevicelinkDistances_f [.agg (encP p), .agg (encP q), .agg [.int .i64 a, .int .i64 b, .int .i64 c, .lst Ei v], .lst Ei xs] [] (fun v X => v = .bool true ∧ X = []) := by
    clear hp hq
    refine tc0 env K2_DevicelinkDistances_s (by rfl) ?_
    dsimp only [K2_DevicelinkDistances_c, encP]
    by_cases h0 : farE p q a b c v xs = 0
    · have hh := h0
      unfold farE at hh
      by_cases h1 : prfE p ≠ 0
      · rw [if_pos h1] at hh; exact absurd hh h1
      rw [if_neg h1] at hh
      by_cases h2 : prfE q ≠ 0
      · rw [if_pos h2] at hh; exact absurd hh h2
      rw [if_neg h2] at hh
      by_cases h3 : dlE a b c v ≠ 0
      · rw [if_pos h3] at hh; exact absurd hh h3
      rw [if_neg h3] at hh
      by_cases h4 : a ≠ p.inks.length ∨ b ≠ q.inks.length
      · rw [if_pos h4] at hh; omega
      rw [if_neg h4] at hh
      have h1' : prfE p = 0 := by simpa using h1
      have h2' : prfE q = 0 := by simpa using h2
      have h3' : dlE a b c v = 0 := by simpa using h3
      obtain ⟨m1, t1, op⟩ := prfE_ok h1'
      obtain ⟨m2, t2, oq⟩ := prfE_ok h2'
      obtain ⟨inn, out, s, rfl, rfl, rfl, g, hf⟩ := dl_ok h3'
      have e1 := op.il
      have e2 := oq.il
      obtain rfl : m1 = inn := by omega
      obtain rfl : m2 = out := by omega
      obtain ⟨ys, rfl, hy, yb⟩ := tones_nat hh
      have gs := g.step
      have it : inTone (dlQ v m2 s ys) := dlQ_bd hf (by omega)
      have lq : (dlQ v m2 s ys).length = m2 := dlQ_len
      obtain ⟨zs, hz, hz1, hz2⟩ := nat_tones it
      rw [lq] at hz1 hz2
      have fy := dfar_y p q m1 m2 t1 t2 s v ys zs wp wq w5.1 h1' h2' h3' op oq g hf ⟨hy, yb⟩ hz ⟨hz1, hz2⟩
      have cv := convert_y m1 m2 s v ys g hf h3' w5.1 ⟨hy, yb⟩
      rw [hz] at cv
      have f1 := forward_y p m1 t1 ys wp h1' op ⟨hy, yb⟩
      have f2 := forward_y q m2 t2 zs wq h2' oq ⟨hz1, hz2⟩
      have k1 := pcol_ok op ⟨hy, yb⟩
      have k2 := pcol_ok oq ⟨hz1, hz2⟩
      have sq := square_c (pcol p m1 t1 ys 0) (pcol p m1 t1 ys 1) (pcol p m1 t1 ys 2) (pcol q m2 t2 zs 0) (pcol q m2 t2 zs 1) (pcol q m2 t2 zs 2)
      rw [if_pos ⟨k1, k2⟩, if_pos ⟨k1, k2⟩] at sq
      repeat' (first
        | ((with_reducible refine TOps.any ?_); refine TOps.callV env (by rfl) (by rfl) (by rfl) (dvlWorks_c) ?_)
        | ((with_reducible refine TOps.any ?_); refine TOps.callV env (by rfl) (by rfl) (by rfl) (fy) ?_)
        | ((with_reducible refine TOps.any ?_); refine TOps.callV env (by rfl) (by rfl) (by rfl) (f1) ?_)
        | ((with_reducible refine TOps.any ?_); refine TOps.callV env (by rfl) (by rfl) (by rfl) (cv) ?_)
        | ((with_reducible refine TOps.any ?_); refine TOps.callV env (by rfl) (by rfl) (by rfl) (f2) ?_)
        | ((with_reducible refine TOps.any ?_); refine TOps.callV env (by rfl) (by rfl) (by rfl) (sq) ?_)
        | refine GZp_i_2i_y_L2iJ ?_ ?_ ?_ ?_ ?_ ?_ ?_ ?_
        | with_reducible first | exact BzZq.mk | refine Tw.ret ?_ | refine ImZq.i fun h => ?_ | refine IkZq.i fun hk => ?_)
      exact ⟨rfl, congrArg TV.bool (by simp), rfl⟩
    · have fn := dfar_n p q a b c v xs wp wq w5.1 w6.1 h0
      repeat' (first
        | ((with_reducible refine TOps.any ?_); refine TOps.callV env (by rfl) (by rfl) (by rfl) (dvlWorks_c) ?_)
        | ((with_reducible refine TOps.any ?_); refine TOps.callV env (by rfl) (by rfl) (by rfl) (fn) ?_)
        | refine GZp_i_2i_y_L2iJ ?_ ?_ ?_ ?_ ?_ ?_ ?_ ?_
        | with_reducible first | exact BzZq.mk | refine Tw.ret ?_ | refine ImZq.i fun h => ?_ | refine IkZq.i fun hk => ?_)
      exact ⟨rfl, congrArg TV.bool (by simp), rfl⟩
  subst hp
  subst hq
  exact main
end Go.Proofs.Ytogbkhopanaoiaa
