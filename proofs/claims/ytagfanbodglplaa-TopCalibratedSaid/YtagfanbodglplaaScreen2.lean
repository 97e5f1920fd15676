/- Screens: the form and the place, and what leaves the place alone. -/
import Derived.Test.YtagfanbodglplaaScreen1
import Derived.Test.YtagfanbodglplaaGo
namespace Go.Proofs.Ytagfanbodglplaa
open Go Go.Lite
set_option linter.unusedVariables false
set_option linter.unusedSimpArgs false
set_option maxRecDepth 100000
set_option maxHeartbeats 4000000
-- @simp rdi

/-- What is known of a form. -/
structure Frm (a b P f g : Int) : Prop where
  gb : 1 ≤ g ∧ g ≤ 20
  pb : 1 ≤ P ∧ P ≤ 400
  fb : 0 ≤ f ∧ f < P
  area : g * P = a * a + b * b
  l1 : ∃ n k, b = g * n ∧ a - n * f = P * k
  l2 : ∃ n k, a = g * n ∧ -b - n * f = P * k
  l3 : ∃ n k, P = g * n ∧ 0 - n * f = P * k

theorem schk_ok {a b k : Int} (h : schk a b k = 0) : 0 ≤ a ∧ a ≤ 20 ∧ 0 ≤ b ∧ b ≤ 20 ∧ 0 ≤ k ∧ k ≤ 3 ∧ 0 < a + b ∧ 1 ≤ a * a + b * b ∧ a * a + b * b ≤ 400 := by
  unfold schk at h
  split at h
  · cases h
  · split at h
    · cases h
    · split at h
      · cases h
      · have q1 := sq_bd (a := a) (by omega)
        have q2 := sq_bd (a := b) (by omega)
        refine ⟨by omega, by omega, by omega, by omega, by omega, by omega, ?_, by omega, by omega⟩
        refine Int.not_le.1 fun hc => ?_
        have e1 : a = 0 := by omega
        have e2 : b = 0 := by omega
        subst e1; subst e2
        omega

theorem of_ex (a b k : Int) (h : schk a b k = 0) : ∃ P f g : Int, TC R Try.prog screen_Of_f [.agg [.int .i64 a, .int .i64 b, .int .i64 k]] [] (fun v X => v = .agg [.int .i64 P, .int .i64 f, .int .i64 g] ∧ X = []) ∧ Frm a b P f g := by
  obtain ⟨a1, a2, b1, b2, k1, k2, ab, n1, n2⟩ := schk_ok h
  obtain ⟨g, u, v, hc, g1, g2, g3, ⟨a', ea⟩, ⟨b', eb⟩, g6, g7, g8, g9, g10, g11⟩ := bezout_ex 20 (by omega) 20 a b a1 a2 b1 (by omega) b2 ab
  have hs : a * a + b * b = g * (g * (a' * a' + b' * b')) := by subst ea; subst eb; grind
  have huv : u * a' + v * b' = 1 := by
    have : g * (u * a' + v * b') = g * 1 := by subst ea; subst eb; rw [Int.mul_one]; rw [← g3]; grind
    exact Int.eq_of_mul_eq_mul_left (by omega) this
  obtain ⟨P, hP⟩ : ∃ P, P = g * (a' * a' + b' * b') := ⟨_, rfl⟩
  rw [← hP] at hs
  have hPb : 1 ≤ P ∧ P ≤ 400 := by
    have p1 : 0 < P := by
      refine Int.not_le.1 fun hc => ?_
      have := Int.mul_le_mul_of_nonneg_left hc (show 0 ≤ g by omega)
      rw [Int.mul_zero] at this
      omega
    have p2 : 1 * P ≤ g * P := Int.mul_le_mul_of_nonneg_right (by omega) (by omega)
    omega
  have q1 : quo (a * a + b * b) g = P := by rw [quo_nn (by omega), hs, Int.mul_ediv_cancel_left _ (by omega)]
  have va : -1000 ≤ v * a ∧ v * a ≤ 1000 := by
    have := Int.mul_le_mul_of_nonneg_right (show v ≤ 21 by omega) a1
    have := Int.mul_le_mul_of_nonneg_right (show -21 ≤ v by omega) a1
    omega
  have ub : -1000 ≤ u * b ∧ u * b ≤ 1000 := by
    have := Int.mul_le_mul_of_nonneg_right (show u ≤ 21 by omega) b1
    have := Int.mul_le_mul_of_nonneg_right (show -21 ≤ u by omega) b1
    omega
  have sa := sq_bd ⟨a1, a2⟩
  have sb := sq_bd ⟨b1, b2⟩
  have mc := smod_c (v * a - u * b) P (by unfold Due; omega)
  have f1 := Int.emod_nonneg (v * a - u * b) (show P ≠ 0 by omega)
  have f2 := Int.emod_lt_of_pos (v * a - u * b) (show 0 < P by omega)
  have f3 := Int.mul_ediv_add_emod (v * a - u * b) P
  generalize hf : (v * a - u * b) % P = f at *
  generalize (v * a - u * b) / P = k0 at *
  have f4 : f = v * a - u * b - P * k0 := by omega
  refine ⟨P, f, g, ?_, ⟨by omega, hPb, by omega, hs.symm, ⟨b', u + b' * k0, eb, ?_⟩, ⟨a', a' * k0 - v, ea, ?_⟩, ⟨a' * a' + b' * b', (a' * a' + b' * b') * k0 - (v * a' - u * b'), hP, ?_⟩⟩⟩
  · refine tc0 env screen_Of_s (by rfl) ?_
    dsimp only [screen_Of_c]
    repeat' (first
      | ((with_reducible refine TOps.any ?_); refine TOps.callV env (by rfl) (by rfl) (by rfl) (hc) ?_)
      | refine GZp_i ?_ ?_ ?_ ?_ ?_ ?_ ?_ ?_
      | with_reducible first | exact BzZq.mk | refine Tw.ret ?_ | refine ImZq.i fun h => ?_ | refine IkZq.i fun hk => ?_)
    rw [q1]
    repeat' (first
      | ((with_reducible refine TOps.any ?_); refine TOps.callV env (by rfl) (by rfl) (by rfl) (mc) ?_)
      | refine GZp_i ?_ ?_ ?_ ?_ ?_ ?_ ?_ ?_
      | with_reducible first | exact BzZq.mk | refine Tw.ret ?_ | refine ImZq.i fun h => ?_ | refine IkZq.i fun hk => ?_)
    exact ⟨rfl, rfl, rfl⟩
  · rw [f4]; subst ea; subst eb; subst hP; clear q1 mc hc; grind
  · rw [f4]; subst ea; subst eb; subst hP; clear q1 mc hc; grind
  · rw [f4]; subst ea; subst eb; subst hP; clear q1 mc hc; grind

def plc (P f g x y : Int) : Int := (y % g) * P + (x - (y / g % P) * f) % P

theorem place_c {a b P f g : Int} (F : Frm a b P f g) (x y : Int) (h : Due (-2000000 ≤ x ∧ x ≤ 2000000 ∧ -2000000 ≤ y ∧ y ≤ 2000000)) :
    TC R Try.prog _screen_Form__Place_f [.agg [.int .i64 P, .int .i64 f, .int .i64 g], .int .i64 x, .int .i64 y] [] (fun v X => v = .int .i64 (plc P f g x y) ∧ X = []) := by
  dsimp only [Due] at h
  have hg := F.gb
  have hP := F.pb
  have hf := F.fb
  have y1 := Int.emod_nonneg y (show g ≠ 0 by omega)
  have y2 := Int.emod_lt_of_pos y (show 0 < g by omega)
  have y3 := Int.mul_ediv_add_emod y g
  have t1 : -2000000 ≤ y / g ∧ y / g ≤ 2000000 := by
    constructor
    · exact (Int.le_ediv_iff_mul_le (by omega)).2 (by omega)
    · have := (Int.ediv_lt_iff_lt_mul (a := y) (b := 2000001) (c := g) (by omega)).2 (by omega)
      omega
  have q1 : quo (y - y % g) g = y / g := by
    have e : y - y % g = g * (y / g) := by omega
    rw [e]
    have hz := quo_rem (g * (y / g)) g
    have hb := rem_bd (a := g * (y / g)) (show 0 < g by omega)
    have h4 : g * (y / g - quo (g * (y / g)) g) = rem (g * (y / g)) g := by rw [Int.mul_sub]; omega
    have h5 : y / g - quo (g * (y / g)) g < 1 := by
      refine Int.not_le.1 fun hc => ?_
      have := Int.mul_le_mul_of_nonneg_left hc (show 0 ≤ g by omega)
      omega
    have h6 : -1 < y / g - quo (g * (y / g)) g := by
      refine Int.not_le.1 fun hc => ?_
      have := Int.mul_le_mul_of_nonneg_left hc (show 0 ≤ g by omega)
      omega
    omega
  have r1 := Int.emod_nonneg (y / g) (show P ≠ 0 by omega)
  have r2 := Int.emod_lt_of_pos (y / g) (show 0 < P by omega)
  have m1 := smod_c y g (by unfold Due; omega)
  have m2 := smod_c (y / g) P (by unfold Due; omega)
  have b1 : 0 ≤ y / g % P * f ∧ y / g % P * f ≤ 400 * 400 := by
    have := Int.mul_le_mul (show y / g % P ≤ 400 by omega) (show f ≤ 400 by omega) (by omega) (by omega)
    have := Int.mul_nonneg r1 hf.1
    omega
  have b2 : 0 ≤ y % g * P ∧ y % g * P ≤ 20 * 400 := by
    have := Int.mul_le_mul (show y % g ≤ 20 by omega) (show P ≤ 400 by omega) (by omega) (by omega)
    have := Int.mul_nonneg y1 (show 0 ≤ P by omega)
    omega
  have m3 := smod_c (x - y / g % P * f) P (by unfold Due; omega)
  have s1 := Int.emod_nonneg (x - y / g % P * f) (show P ≠ 0 by omega)
  have s2 := Int.emod_lt_of_pos (x - y / g % P * f) (show 0 < P by omega)
  refine tc0 env _screen_Form__Place_s (by rfl) ?_
  dsimp only [_screen_Form__Place_c]
  repeat' (first
    | ((with_reducible refine TOps.any ?_); refine TOps.callV env (by rfl) (by rfl) (by rfl) (m1) ?_)
    | refine GZp_i ?_ ?_ ?_ ?_ ?_ ?_ ?_ ?_
    | with_reducible first | exact BzZq.mk | refine Tw.ret ?_ | refine ImZq.i fun h => ?_ | refine IkZq.i fun hk => ?_)
  rw [q1]
  repeat' (first
    | ((with_reducible refine TDr.any ?_); refine TDr.callE env (by first | rfl | assumption) (by rfl) (by rfl) ?_ (m2) (by rfl) (by rfl) ?_)
    | ((with_reducible refine TDr.any ?_); refine TDr.callE env (by first | rfl | assumption) (by rfl) (by rfl) ?_ (m3) (by rfl) (by rfl) ?_)
    | refine GZp_i ?_ ?_ ?_ ?_ ?_ ?_ ?_ ?_
    | with_reducible first | exact BzZq.mk | refine Tw.ret ?_ | refine ImZq.i fun h => ?_ | refine IkZq.i fun hk => ?_)
  exact ⟨rfl, rfl, rfl⟩

end Go.Proofs.Ytagfanbodglplaa
