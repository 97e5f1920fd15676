/- Presses: setups and presses that are in order. -/
import Derived.Test.YtbaepacihkgalaaPrs4
import Derived.Test.YtbaepacihkgalaaGo
namespace Go.Proofs.Ytbaepacihkgalaa
open Go Go.Lite
set_option linter.unusedVariables false
set_option linter.unusedSimpArgs false
set_option maxRecDepth 100000
set_option maxHeartbeats 100000000
-- @simp rdi rd6i rdLiJ

theorem mul_in {a b A B : Int} (ha : 0 ≤ a ∧ a ≤ A) (hb : 0 ≤ b ∧ b ≤ B) : 0 ≤ a * b ∧ a * b ≤ A * B :=
  ⟨Int.mul_nonneg ha.1 hb.1, Int.le_trans (Int.mul_le_mul_of_nonneg_right ha.2 hb.1) (Int.mul_le_mul_of_nonneg_left hb.2 (Int.le_trans ha.1 ha.2))⟩
/-- The film of a zone behind a sheet. -/
def inkV (f k g l : Int) : Int := f + (2 * k * g - f * (8 + l) / 8) / 8
theorem inkV_ok {f k g l : Int} (hf : 0 ≤ f ∧ f ≤ 24000) (hk : 0 ≤ k ∧ k ≤ 1000) (hg : 4 ≤ g ∧ g ≤ 12) (hl : 0 ≤ l ∧ l ≤ 8) : 0 ≤ inkV f k g l ∧ inkV f k g l ≤ 24000 := by
  unfold inkV
  have h1 := mul_in hf (B := 16) (b := 8 + l) (by omega)
  have h2 := mul_in (a := 2 * k) (A := 2000) (b := g) (B := 12) (by omega) (by omega)
  have h3 := mul_in hf (b := l) (B := 8) (by omega)
  have h4 : f * (8 + l) = 8 * f + f * l := by rw [Int.mul_add, Int.mul_comm f 8]
  have h5 : f * l ≤ f * 8 := Int.mul_le_mul_of_nonneg_left hl.2 hf.1
  omega

def inkU (a : Un) (z : Nat) (l : Int) : Un := { a with fl := a.fl.set z (inkV (a.fl.getD z 0) (a.ks.getD z 0) a.gn l) }
def ink_c_P (n8 : Nat) : Prop := ∀ (S : Su) (u i z : Nat) (p : Ps) (l : Int) (hu : i < u ∧ u ≤ 8) (hz : z < S.Z) (ok : UOk S.Z (p.us i)) (hl : Due (0 ≤ l ∧ l ≤ 8)) (e8 : u = n8), TC R Try.prog __press_unit__ink_f [.ptr 1 (7 * i), .int .i64 z, .int .i64 l] (prR S u p) (fun v X => v = .tup [] ∧ X = prR S u { p with us := upU p.us i (inkU (p.us i) z l) })
theorem ink_c_A {n8 : Nat} (h8 : ink_c_P n8 := by
    intro S u i z p l hu hz ok hl e8
    dsimp only [Due] at hl
    have hk := ok.k z hz
    have hf := ok.f z hz
    have hg := ok.gn
    have lk := ok.kl
    have lf := ok.fl
    have m1 := mul_in hf (B := 16) (b := 8 + l) (by omega)
    have m2 := mul_in (a := 2 * (p.us i).ks.getD z 0) (A := 2000) (b := (p.us i).gn) (B := 12) (by omega) (by omega)
    have e1 : quo ((p.us i).fl.getD z 0 * (8 + l)) 8 = (p.us i).fl.getD z 0 * (8 + l) / 8 := Int.tdiv_eq_ediv_of_nonneg m1.1
    have m3 : 0 ≤ quo ((p.us i).fl.getD z 0 * (8 + l)) 8 ∧ quo ((p.us i).fl.getD z 0 * (8 + l)) 8 ≤ 48000 := by rw [e1]; omega
    have p8 : (2 : Int) ^ Int.toNat 3 = 8 := by decide
    have d0 : -9223372036854775808 ≤ 2 * (p.us i).ks.getD z 0 ∧ 2 * (p.us i).ks.getD z 0 ≤ 9223372036854775807 := by omega
    have d1 : -9223372036854775808 ≤ (p.us i).fl.getD z 0 * (8 + l) ∧ (p.us i).fl.getD z 0 * (8 + l) ≤ 9223372036854775807 := by omega
    have d2 : -9223372036854775808 ≤ quo ((p.us i).fl.getD z 0 * (8 + l)) 8 ∧ quo ((p.us i).fl.getD z 0 * (8 + l)) 8 ≤ 9223372036854775807 := by omega
    have d3 : -9223372036854775808 ≤ 2 * (p.us i).ks.getD z 0 * (p.us i).gn ∧ 2 * (p.us i).ks.getD z 0 * (p.us i).gn ≤ 9223372036854775807 := by omega
    have d4 : -9223372036854775808 ≤ 2 * (p.us i).ks.getD z 0 * (p.us i).gn - quo ((p.us i).fl.getD z 0 * (8 + l)) 8 ∧ 2 * (p.us i).ks.getD z 0 * (p.us i).gn - quo ((p.us i).fl.getD z 0 * (8 + l)) 8 ≤ 9223372036854775807 := by omega
    have d5 := inkV_ok hf hk hg hl
    have e2 : inkU (p.us i) z l = { p.us i with fl := (p.us i).fl.set z ((p.us i).fl.getD z 0 + (2 * (p.us i).ks.getD z 0 * (p.us i).gn - quo ((p.us i).fl.getD z 0 * (8 + l)) 8) / 2 ^ Int.toNat 3) } := by rw [e1, p8]; rfl
    have d6 : -9223372036854775808 ≤ (p.us i).fl.getD z 0 + (2 * (p.us i).ks.getD z 0 * (p.us i).gn - quo ((p.us i).fl.getD z 0 * (8 + l)) 8) / 2 ^ Int.toNat 3 ∧ (p.us i).fl.getD z 0 + (2 * (p.us i).ks.getD z 0 * (p.us i).gn - quo ((p.us i).fl.getD z 0 * (8 + l)) 8) / 2 ^ Int.toNat 3 ≤ 9223372036854775807 := by rw [e1, p8]; unfold inkV at d5; omega
    rw [e2]
    clear e1 e2 d5 m1 m2 m3 hk hf hg
    have b := below hu
    refine prTC (fun _ => rfl) (tc env __press_unit__ink_s (by rfl) ?_)
    dsimp only [__press_unit__ink_c]
    subst e8
    rcases b with ⟨rfl, b⟩ | ⟨rfl, b⟩ | ⟨rfl, b⟩ | ⟨rfl, b⟩ | ⟨rfl, b⟩ | ⟨rfl, b⟩ | ⟨rfl, b⟩ | ⟨rfl, b⟩
    all_goals first | (exfalso; omega) | simp only [prR, prC, unsC, unC, unR, List.cons_append, List.nil_append, Nat.reduceAdd, Nat.reduceMul]
    all_goals
      repeat' (first
        | exact d0
        | exact d1
        | exact d2
        | exact d3
        | exact d4
        | exact d6
        | refine GZp_i_6i_LiJ ?_ ?_ ?_ ?_ ?_ ?_ ?_ ?_
        | with_reducible first | exact BzZq.mk | refine Tw.ret ?_ | refine ImZq.i fun h => ?_ | refine IkZq.i fun hk => ?_)
      all_goals first | exact ⟨rfl, rfl⟩ | trace_state) : ink_c_P n8 := h8
theorem ink_c_1 : ink_c_P 1 := ink_c_A
theorem ink_c_2 : ink_c_P 2 := ink_c_A
theorem ink_c_3 : ink_c_P 3 := ink_c_A
theorem ink_c_4 : ink_c_P 4 := ink_c_A
theorem ink_c_5 : ink_c_P 5 := ink_c_A
theorem ink_c_6 : ink_c_P 6 := ink_c_A
theorem ink_c_7 : ink_c_P 7 := ink_c_A
theorem ink_c_8 : ink_c_P 8 := ink_c_A
theorem ink_c (S : Su) (u i z : Nat) (p : Ps) (l : Int) (hu : i < u ∧ u ≤ 8) (hz : z < S.Z) (ok : UOk S.Z (p.us i)) (hl : Due (0 ≤ l ∧ l ≤ 8)) : TC R Try.prog __press_unit__ink_f [.ptr 1 (7 * i), .int .i64 z, .int .i64 l] (prR S u p) (fun v X => v = .tup [] ∧ X = prR S u { p with us := upU p.us i (inkU (p.us i) z l) }) := by
  rcases eight (u := u) (by omega) with e8 | e8 | e8 | e8 | e8 | e8 | e8 | e8
  · exact ink_c_1 S u i z p l hu hz ok hl e8
  · exact ink_c_2 S u i z p l hu hz ok hl e8
  · exact ink_c_3 S u i z p l hu hz ok hl e8
  · exact ink_c_4 S u i z p l hu hz ok hl e8
  · exact ink_c_5 S u i z p l hu hz ok hl e8
  · exact ink_c_6 S u i z p l hu hz ok hl e8
  · exact ink_c_7 S u i z p l hu hz ok hl e8
  · exact ink_c_8 S u i z p l hu hz ok hl e8
end Go.Proofs.Ytbaepacihkgalaa
namespace Go.Proofs.Ytbaepacihkgalaa
open Go Go.Lite
set_option linter.unusedVariables false
set_option linter.unusedSimpArgs false
set_option maxRecDepth 100000
set_option maxHeartbeats 4000000

structure SuOk (S : Su) (u : Nat) : Prop where
  un : 1 ≤ u ∧ u ≤ 8
  Z : 1 ≤ S.Z ∧ S.Z ≤ 16
  mr : 0 ≤ S.mr ∧ S.mr ≤ 4000
  rg : 0 ≤ S.rg ∧ S.rg ≤ 1000
  tol : 0 ≤ S.tol ∧ S.tol ≤ 24000
  tl : S.tg.length = u
  kl : S.ks.length = u
  ll : S.ld.length = u
  t : ∀ i, i < u → 0 ≤ S.tg.getD i 0 ∧ S.tg.getD i 0 ≤ 24000
  k : ∀ i, i < u → (S.ks.getD i []).length = S.Z ∧ ∀ z, z < S.Z → 0 ≤ (S.ks.getD i []).getD z 0 ∧ (S.ks.getD i []).getD z 0 ≤ 1000
  l : ∀ i, i < u → (S.ld.getD i []).length = S.Z ∧ ∀ z, z < S.Z → 0 ≤ (S.ld.getD i []).getD z 0 ∧ (S.ld.getD i []).getD z 0 ≤ 8
structure PsOk (S : Su) (u : Nat) (p : Ps) : Prop where
  n : 0 ≤ p.n ∧ p.n ≤ 4000
  s : 0 ≤ p.s ∧ p.s ≤ p.n
  j : 0 ≤ p.j ∧ p.j ≤ 20
  un : ∀ i, i < u → UOk S.Z (p.us i)
end Go.Proofs.Ytbaepacihkgalaa
