/- Merged: Curve2 Num Ref1 Prf1 Curve3 Tones. -/
import Derived.Test.YtkapjajlkpepmaaCurve1
import Derived.Test.YtkapjajlkpepmaaGo
import Derived.Test.YtkapjajlkpepmaaLiteTP
import Derived.Test.YtkapjajlkpepmaaXDevicelinkSelf0
import Derived.Test.YtkapjajlkpepmaaGrid3
namespace Go.Proofs.Ytkapjajlkpepmaa
open Go Go.Lite
set_option linter.unusedVariables false
set_option linter.unusedSimpArgs false
set_option maxRecDepth 100000
set_option maxHeartbeats 4000000
-- @simp rd2i

/-- The last point up to n that is not right of x. -/
def seg (c : List (Int × Int)) (x : Int) : Nat → Nat
  | 0 => 0
  | n + 1 => if (c.getD (n + 1) (0, 0)).1 ≤ x then n + 1 else seg c x n
def rawAt (c : List (Int × Int)) (x : Int) (i : Nat) : Int := (c.getD i (0, 0)).2 + near (((c.getD (i + 1) (0, 0)).2 - (c.getD i (0, 0)).2) * (x - (c.getD i (0, 0)).1)) ((c.getD (i + 1) (0, 0)).1 - (c.getD i (0, 0)).1)
def raw (c : List (Int × Int)) (x : Int) : Int := rawAt c x (seg c x (c.length - 2))

theorem Valid.mono {c : List (Int × Int)} (v : Valid c) : ∀ (n i : Nat), i + n < c.length → (c.getD i (0, 0)).1 + n ≤ (c.getD (i + n) (0, 0)).1 ∧ (c.getD i (0, 0)).2 ≤ (c.getD (i + n) (0, 0)).2 := by
  intro n
  induction n with
  | zero => intro i h; simp
  | succ n ih =>
    intro i h
    have h1 := ih i (by omega)
    have h2 := v.ord (i + n) (by omega)
    rw [show i + (n + 1) = i + n + 1 by omega]
    omega

theorem seg_is {c : List (Int × Int)} (v : Valid c) {x : Int} {i : Nat} (h1 : (c.getD i (0, 0)).1 ≤ x) : ∀ n, i ≤ n → n < c.length → (i = n ∨ x < (c.getD (i + 1) (0, 0)).1) → seg c x n = i := by
  intro n
  induction n with
  | zero => intro h2 h3 h4; simp only [seg]; omega
  | succ n ih =>
    intro h2 h3 h4
    simp only [seg]
    by_cases e : i = n + 1
    · subst e; rw [if_pos h1]
    · have h5 : x < (c.getD (i + 1) (0, 0)).1 := h4.resolve_left e
      have := v.mono (n - i) (i + 1) (by omega)
      rw [show i + 1 + (n - i) = n + 1 by omega] at this
      rw [if_neg (by omega)]
      exact ih (by omega) (by omega) (.inr h5)

theorem prod_bd {a b : Int} (ha : 0 ≤ a ∧ a ≤ 65280) (hb : 0 ≤ b ∧ b ≤ 65280) : 0 ≤ a * b ∧ a * b ≤ 4261478400 :=
  ⟨Int.mul_nonneg ha.1 hb.1, Int.le_trans (Int.mul_le_mul ha.2 hb.2 hb.1 (by omega)) (by omega)⟩
theorem near_bd {n d k : Int} (hd : 0 < d) (hn : 0 ≤ n) (h : n ≤ k * d) : 0 ≤ near n d ∧ near n d ≤ k := by
  unfold near
  refine ⟨Int.ediv_nonneg (by omega) (by omega), ?_⟩
  have : 2 * n + d < (k + 1) * (2 * d) := by
    have : (k + 1) * (2 * d) = 2 * (k * d) + 2 * d := by rw [Int.add_mul, Int.mul_left_comm]; omega
    omega
  have := Int.ediv_lt_of_lt_mul (show 0 < 2 * d by omega) this
  omega

theorem raw_c (c : List (Int × Int)) (x : Int) (v : Valid c) (hx : Due (0 ≤ x ∧ x ≤ 65280)) : TC R Try.prog curve_Raw_f [.agg [.lst E2i c], .int .i64 x] [] (fun v X => v = .int .i64 (raw c x) ∧ X = []) := by
  dsimp only [Due] at hx
  have hl := v.len
  refine tc0 env curve_Raw_s (by rfl) ?_
  dsimp only [curve_Raw_c]
  repeat' (first
    | refine GZ_2i ?_ ?_ ?_ ?_ ?_ ?_ ?_ ?_
    | with_reducible first | exact BzZq.mk | refine Tw.ret ?_ | refine ImZq.i fun h => ?_ | refine IkZq.i fun hk => ?_)
  refine Tw.loopK [1, 2] (fun p : Nat × Nat => p.1 < p.2 ∧ p.2 < c.length ∧ (c.getD p.1 (0, 0)).1 ≤ x ∧ x ≤ (c.getD p.2 (0, 0)).1 ∧ (p.2 = c.length - 1 ∨ x < (c.getD p.2 (0, 0)).1)) (fun p => p.2 - p.1) (fun p => [(5, .int .i64 p.1), (6, .int .i64 p.2)]) (fun _ => [some (.cells [.lst E2i c])]) ⟨(0, c.length - 1), ?_, TWk.fcanon env [some 0] (by rfl) ?_⟩ (fun p hp => ?_)
  · have := v.first; have := v.last; dsimp only; omega
  · repeat' (first
      | with_reducible first | exact Conj.nil | refine Conj.cons rfl ?_ | refine Conj.same ?_ | refine Conj.ask ?_ ?_
      | ((with_reducible refine Due.mk ?_); (first | with_reducible rfl | omega | assumption | decide | ((try simp only [goS] at *) <;> (try intro h) <;> (try intro h') <;> (try simp only [goS] at *) <;> (try simp only [rd2i, Int.toNat_natCast, Nat.add_zero] at *) <;> (try simp only [rng]) <;> (first | assumption | omega)) | (exact due_app0 (by omega)) | (exact due_app (by omega)) | (intros; simp; done) | (intros; simp; omega)))
      | with_reducible refine Due.mk ?_
      | omega)
  obtain ⟨l, u⟩ := p
  dsimp only at hp ⊢
  have hq : quo ((l : Int) + u) 2 = ((l + u) / 2 : Nat) := by rw [quo_nn (by omega)]; omega
  have b1 := v.rg l (by omega)
  have b2 := v.rg u (by omega)
  have b3 := v.mono (u - l) l (by omega)
  rw [show l + (u - l) = u by omega] at b3
  have b4 := prod_bd (a := (c.getD u (0, 0)).2 - (c.getD l (0, 0)).2) (b := x - (c.getD l (0, 0)).1) (by omega) (by omega)
  have b5 := near_bd (n := ((c.getD u (0, 0)).2 - (c.getD l (0, 0)).2) * (x - (c.getD l (0, 0)).1)) (d := (c.getD u (0, 0)).1 - (c.getD l (0, 0)).1) (k := (c.getD u (0, 0)).2 - (c.getD l (0, 0)).2) (by omega) (by omega) (Int.mul_le_mul_of_nonneg_left (by omega) (by omega))
  repeat' (first
    | ((with_reducible refine TDr.any ?_); refine TDr.callE env (by first | rfl | assumption) (by rfl) (by rfl) ?_ (nearest_c _ _ ?_) (by rfl) (by rfl) ?_)
    | refine GZx_2i hq ?_ ?_ ?_ ?_ ?_ ?_ ?_ ?_
    | with_reducible first | exact BzZq.mk | refine Tw.ret ?_ | refine ImZq.i fun h => ?_ | refine IkZq.i fun hk => ?_)
  · refine ⟨((l + u) / 2, u), ?_, ?_, TWk.fcanon env [some 0] (by rfl) ?_⟩
    · dsimp only; omega
    · dsimp only; omega
    · repeat' (first
        | refine GZx_2i hq ?_ ?_ ?_ ?_ ?_ ?_ ?_ ?_
        | with_reducible first | exact BzZq.mk | refine Tw.ret ?_ | refine ImZq.i fun h => ?_ | refine IkZq.i fun hk => ?_)
  · refine ⟨(l, (l + u) / 2), ?_, ?_, TWk.fcanon env [some 0] (by rfl) ?_⟩
    · dsimp only; omega
    · dsimp only; omega
    · repeat' (first
        | refine GZx_2i hq ?_ ?_ ?_ ?_ ?_ ?_ ?_ ?_
        | with_reducible first | exact BzZq.mk | refine Tw.ret ?_ | refine ImZq.i fun h => ?_ | refine IkZq.i fun hk => ?_)
  · obtain rfl : u = l + 1 := by omega
    refine ⟨rfl, ?_, rfl⟩
    simp only [Int.toNat_natCast, rd2i]
    rw [raw, seg_is v (i := l) (by omega) _ (by omega) (by omega) (by omega)]
    rfl
end Go.Proofs.Ytkapjajlkpepmaa
namespace Go.Proofs.Ytkapjajlkpepmaa
open Go Go.Lite
set_option linter.unusedVariables false
set_option linter.unusedSimpArgs false
set_option maxRecDepth 100000
set_option maxHeartbeats 4000000

theorem sq_le {a b : Int} (h : 0 ≤ a) (h2 : a ≤ b) : a * a ≤ b * b := Int.mul_le_mul h2 h2 h (by omega)
theorem sq_bd {x k : Int} (h : -k ≤ x ∧ x ≤ k) : 0 ≤ x * x ∧ x * x ≤ k * k := by
  rcases Int.le_total 0 x with h' | h'
  · exact ⟨Int.mul_nonneg h' h', sq_le h' h.2⟩
  · have := sq_le (a := -x) (b := k) (by omega) (by omega)
    rw [Int.neg_mul_neg] at this
    exact ⟨by rw [← Int.neg_mul_neg]; exact Int.mul_nonneg (by omega) (by omega), this⟩

end Go.Proofs.Ytkapjajlkpepmaa
namespace Go.Proofs.Ytkapjajlkpepmaa
open Go Go.Lite
set_option linter.unusedVariables false
set_option linter.unusedSimpArgs false
set_option maxRecDepth 100000
set_option maxHeartbeats 4000000
-- @simp rdi

def labOk (l a b : Int) : Prop := 0 ≤ l ∧ l ≤ 10000 ∧ -12800 ≤ a ∧ a ≤ 12800 ∧ -12800 ≤ b ∧ b ≤ 12800
instance (l a b : Int) : Decidable (labOk l a b) := by unfold labOk; infer_instance
def labE (l a b : Int) : Int := if labOk l a b then 0 else 3
theorem labE_ok {l a b : Int} : labE l a b = 0 ↔ labOk l a b := by unfold labE; split <;> simp_all

theorem refCheck_c (l a b : Int) : TC R Try.prog refspace_Check_f [.agg [.int .i64 l, .int .i64 a, .int .i64 b]] [] (fun v X => v = .int .i64 (labE l a b) ∧ X = []) := by
  refine tc0 env refspace_Check_s (by rfl) ?_
  dsimp only [refspace_Check_c]
  repeat' (first
    | refine GZ_i ?_ ?_ ?_ ?_ ?_ ?_ ?_ ?_
    | with_reducible first | exact BzZq.mk | refine Tw.ret ?_ | refine ImZq.i fun h => ?_ | refine IkZq.i fun hk => ?_)
  · exact ⟨rfl, by rw [labE, if_neg (by unfold labOk; omega)], rfl⟩
  · exact ⟨rfl, by rw [labE, if_pos (by unfold labOk; omega)], rfl⟩

def far (l a b l' a' b' : Int) : Int := (l - l') * (l - l') + (a - a') * (a - a') + (b - b') * (b - b')
theorem far_bd {l a b l' a' b' : Int} (h : labOk l a b) (h' : labOk l' a' b') : 0 ≤ far l a b l' a' b' ∧ far l a b l' a' b' ≤ 1410720000 := by
  unfold labOk at h h'
  have h1 := sq_bd (x := l - l') (k := 10000) (by omega)
  have h2 := sq_bd (x := a - a') (k := 25600) (by omega)
  have h3 := sq_bd (x := b - b') (k := 25600) (by omega)
  unfold far; omega

theorem far_c (l a b l' a' b' : Int) (h : Due (labOk l a b)) (h' : Due (labOk l' a' b')) : TC R Try.prog refspace_Far_f [.agg [.int .i64 l, .int .i64 a, .int .i64 b], .agg [.int .i64 l', .int .i64 a', .int .i64 b']] [] (fun v X => v = .int .i64 (far l a b l' a' b') ∧ X = []) := by
  dsimp only [Due, labOk] at h h'
  have h1 := sq_bd (x := l - l') (k := 10000) (by omega)
  have h2 := sq_bd (x := a - a') (k := 25600) (by omega)
  have h3 := sq_bd (x := b - b') (k := 25600) (by omega)
  refine tc0 env refspace_Far_s (by rfl) ?_
  dsimp only [refspace_Far_c]
  repeat' (first
    | refine GZ_i ?_ ?_ ?_ ?_ ?_ ?_ ?_ ?_
    | with_reducible first | exact BzZq.mk | refine Tw.ret ?_ | refine ImZq.i fun h => ?_ | refine IkZq.i fun hk => ?_)
  exact ⟨rfl, rfl, rfl⟩

end Go.Proofs.Ytkapjajlkpepmaa
namespace Go.Proofs.Ytkapjajlkpepmaa
open Go Go.Lite
set_option linter.unusedVariables false
set_option linter.unusedSimpArgs false
set_option maxRecDepth 100000
set_option maxHeartbeats 4000000
-- @simp rdi rd2i rdL2iJ

structure Prf where
  nm : ByteArray
  inks : List ByteArray
  cs : List (List (Int × Int))
  a : Int
  b : Int
  c : Int
  v : List Int
abbrev encP (p : Prf) : List (TV A) := [.str p.nm, .lst Es p.inks, .lst EL2iJ p.cs, .int .i64 p.a, .int .i64 p.b, .int .i64 p.c, .lst Ei p.v]
structure PrfW (p : Prf) : Prop where
  nm : p.nm.size ≤ 9223372036854775807
  inks : p.inks.length ≤ 9223372036854775807
  inks' : ∀ y ∈ p.inks, Ws y
  cs : p.cs.length ≤ 9223372036854775807
  v : p.v.length ≤ 9223372036854775807
def crE (cs : List (List (Int × Int))) (i : Nat) : Int := check (cs.getD i [])
def lbE (v : List Int) (i : Nat) : Int := labE (v.getD (3 * i) 0) (v.getD (3 * i + 1) 0) (v.getD (3 * i + 2) 0)
noncomputable def prfE (p : Prf) : Int :=
  if isName p.nm = false then 6 else if 4 < p.inks.length then 2 else if p.inks.length = 0 then 1 else if namesE p.inks ≠ 0 then namesE p.inks
  else if p.cs.length ≠ p.inks.length then 4 else if fstE (crE p.cs) p.cs.length ≠ 0 then fstE (crE p.cs) p.cs.length
  else if chkE p.a p.b p.c p.v ≠ 0 then chkE p.a p.b p.c p.v else if p.a ≠ p.inks.length ∨ p.b ≠ 3 then 4 else fstE (lbE p.v) (p.v.length / 3)
structure PrfOk (p : Prf) (inn s : Nat) : Prop where
  nm : isName p.nm = true
  names : namesE p.inks = 0
  il : p.inks.length = inn
  cl : p.cs.length = inn
  cv : ∀ i, i < inn → Valid (p.cs.getD i [])
  ea : p.a = inn
  eb : p.b = 3
  ec : p.c = s
  g : GOk inn 3 s p.v
  lab : ∀ i, i < s ^ inn → labOk (p.v.getD (3 * i) 0) (p.v.getD (3 * i + 1) 0) (p.v.getD (3 * i + 2) 0)
theorem prfE_ok {p : Prf} (h : prfE p = 0) : ∃ inn s : Nat, PrfOk p inn s := by
  unfold prfE at h
  by_cases h1 : isName p.nm = false
  · rw [if_pos h1] at h; omega
  rw [if_neg h1] at h
  by_cases h2 : 4 < p.inks.length
  · rw [if_pos h2] at h; omega
  rw [if_neg h2] at h
  by_cases h3 : p.inks.length = 0
  · rw [if_pos h3] at h; omega
  rw [if_neg h3] at h
  by_cases h4 : namesE p.inks ≠ 0
  · rw [if_pos h4] at h; exact absurd h h4
  rw [if_neg h4] at h
  by_cases h5 : p.cs.length ≠ p.inks.length
  · rw [if_pos h5] at h; omega
  rw [if_neg h5] at h
  by_cases h6 : fstE (crE p.cs) p.cs.length ≠ 0
  · rw [if_pos h6] at h; exact absurd h h6
  rw [if_neg h6] at h
  by_cases h7 : chkE p.a p.b p.c p.v ≠ 0
  · rw [if_pos h7] at h; exact absurd h h7
  rw [if_neg h7] at h
  by_cases h8 : p.a ≠ p.inks.length ∨ p.b ≠ 3
  · rw [if_pos h8] at h; omega
  rw [if_neg h8] at h
  have h6' : fstE (crE p.cs) p.cs.length = 0 := by simpa using h6
  obtain ⟨inn, out, s, ea, eb, ec, g⟩ := chk_ok (show chkE p.a p.b p.c p.v = 0 by simpa using h7)
  obtain rfl : out = 3 := by omega
  have gl := g.len
  refine ⟨inn, s, by simpa using h1, by simpa using h4, by omega, by omega, fun i hi => check_ok (fstE_zero.1 h6' i (by omega)), ea, by omega, ec, g, fun i hi => ?_⟩
  have := fstE_zero.1 h i (by omega)
  exact labE_ok.1 this
theorem prfCheck_c (p : Prf) (w : Due (PrfW p)) : TC R Try.prog profile_Check_f [.agg (encP p)] [] (fun v X => v = .int .i64 (prfE p) ∧ X = []) := by
  dsimp only [Due] at w
  have inm := isName_c p.nm w.nm
  have nc := names_c p.inks w.inks w.inks'
  have gc := gcheck_c p.a p.b p.c p.v
  have w1 := w.inks
  have w2 := w.cs
  have w3 := w.v
  refine tc0 env profile_Check_s (by rfl) ?_
  dsimp only [profile_Check_c, encP]
  by_cases h1 : isName p.nm = false
  · rw [h1] at inm
    repeat' (first
      | ((with_reducible refine TOps.any ?_); refine TOps.callV env (by rfl) (by rfl) (by rfl) (inm) ?_)
      | refine GZp_i_2i_L2iJ ?_ ?_ ?_ ?_ ?_ ?_ ?_ ?_
      | with_reducible first | exact BzZq.mk | refine Tw.ret ?_ | refine ImZq.i fun h => ?_ | refine IkZq.i fun hk => ?_)
    exact ⟨rfl, by rw [prfE, if_pos h1], rfl⟩
  rw [show isName p.nm = true by simpa using h1] at inm
  by_cases h2 : 4 < p.inks.length
  · repeat' (first
      | ((with_reducible refine TOps.any ?_); refine TOps.callV env (by rfl) (by rfl) (by rfl) (inm) ?_)
      | refine GZp_i_2i_L2iJ ?_ ?_ ?_ ?_ ?_ ?_ ?_ ?_
      | with_reducible first | exact BzZq.mk | refine Tw.ret ?_ | refine ImZq.i fun h => ?_ | refine IkZq.i fun hk => ?_)
    exact ⟨rfl, by rw [prfE, if_neg h1, if_pos h2], rfl⟩
  by_cases h3 : p.inks.length = 0
  · repeat' (first
      | ((with_reducible refine TOps.any ?_); refine TOps.callV env (by rfl) (by rfl) (by rfl) (inm) ?_)
      | refine GZp_i_2i_L2iJ ?_ ?_ ?_ ?_ ?_ ?_ ?_ ?_
      | with_reducible first | exact BzZq.mk | refine Tw.ret ?_ | refine ImZq.i fun h => ?_ | refine IkZq.i fun hk => ?_)
    exact ⟨rfl, by rw [prfE, if_neg h1, if_neg h2, if_pos h3], rfl⟩
  by_cases h4 : namesE p.inks ≠ 0
  · repeat' (first
      | ((with_reducible refine TOps.any ?_); refine TOps.callV env (by rfl) (by rfl) (by rfl) (inm) ?_)
      | ((with_reducible refine TOps.any ?_); refine TOps.callV env (by rfl) (by rfl) (by rfl) (nc) ?_)
      | refine GZp_i_2i_L2iJ ?_ ?_ ?_ ?_ ?_ ?_ ?_ ?_
      | with_reducible first | exact BzZq.mk | refine Tw.ret ?_ | refine ImZq.i fun h => ?_ | refine IkZq.i fun hk => ?_)
    exact ⟨rfl, by rw [prfE, if_neg h1, if_neg h2, if_neg h3, if_pos h4], rfl⟩
  rw [show namesE p.inks = 0 by simpa using h4] at nc
  by_cases h5 : p.cs.length ≠ p.inks.length
  · repeat' (first
      | ((with_reducible refine TOps.any ?_); refine TOps.callV env (by rfl) (by rfl) (by rfl) (inm) ?_)
      | ((with_reducible refine TOps.any ?_); refine TOps.callV env (by rfl) (by rfl) (by rfl) (nc) ?_)
      | refine GZp_i_2i_L2iJ ?_ ?_ ?_ ?_ ?_ ?_ ?_ ?_
      | with_reducible first | exact BzZq.mk | refine Tw.ret ?_ | refine ImZq.i fun h => ?_ | refine IkZq.i fun hk => ?_)
    exact ⟨rfl, by rw [prfE, if_neg h1, if_neg h2, if_neg h3, if_neg h4, if_pos h5], rfl⟩
  have e5 : p.cs.length = p.inks.length := by omega
  repeat' (first
    | ((with_reducible refine TOps.any ?_); refine TOps.callV env (by rfl) (by rfl) (by rfl) (inm) ?_)
    | ((with_reducible refine TOps.any ?_); refine TOps.callV env (by rfl) (by rfl) (by rfl) (nc) ?_)
    | refine GZp_i_2i_L2iJ ?_ ?_ ?_ ?_ ?_ ?_ ?_ ?_
    | with_reducible first | exact BzZq.mk | refine Tw.ret ?_ | refine ImZq.i fun h => ?_ | refine IkZq.i fun hk => ?_)
  refine Tw.loopK [1, 38, 39] (fun i : Nat => i ≤ p.cs.length ∧ ∀ k, k < i → crE p.cs k = 0) (fun i => p.cs.length - i) (fun i => [(40, .int .i64 i)]) (fun _ => [some (.cells (encP p))])
    ⟨0, ⟨by omega, fun k hk => by omega⟩, TWk.fcanon env [some 0] (by rfl) ?_⟩ (fun i hi => ?_)
  · repeat' (first
      | with_reducible first | exact Conj.nil | refine Conj.cons rfl ?_ | refine Conj.same ?_ | refine Conj.ask ?_ ?_
      | ((with_reducible refine Due.mk ?_); (first | with_reducible rfl | omega | assumption | decide | ((try simp only [goS] at *) <;> (try intro h) <;> (try intro h') <;> (try simp only [goS] at *) <;> (try simp only [rdi, rd2i, rdL2iJ, Int.toNat_natCast, Nat.add_zero] at *) <;> (try simp only [rng]) <;> (first | assumption | omega)) | (exact due_app0 (by omega)) | (exact due_app (by omega)) | (intros; simp; done) | (intros; simp; omega)))
      | with_reducible refine Due.mk ?_
      | omega)
  obtain ⟨hi, hp⟩ := hi
  rcases Nat.lt_or_ge i p.cs.length with hi2 | hi2
  · have cc := check_c (p.cs.getD i (R.d EL2iJ))
    by_cases h6 : check (p.cs.getD i (R.d EL2iJ)) = 0
    · rw [h6] at cc
      repeat' (first
        | ((with_reducible refine TOps.any ?_); refine TOps.callV env (by rfl) (by rfl) (by rfl) (cc) ?_)
        | refine GZp_i_2i_L2iJ ?_ ?_ ?_ ?_ ?_ ?_ ?_ ?_
        | with_reducible first | exact BzZq.mk | refine Tw.ret ?_ | refine ImZq.i fun h => ?_ | refine IkZq.i fun hk => ?_)
      refine ⟨i + 1, ⟨by omega, fun k hk => ?_⟩, by omega, TWk.fcanon env [some 0] (by rfl) ?_⟩
      · by_cases e : k = i
        · subst e; exact h6
        · exact hp k (by omega)
      · repeat' (first
          | refine GZ_i_2i_L2iJ ?_ ?_ ?_ ?_ ?_ ?_ ?_ ?_
          | with_reducible first | exact BzZq.mk | refine Tw.ret ?_ | refine ImZq.i fun h => ?_ | refine IkZq.i fun hk => ?_)
    · have e : crE p.cs i = check (p.cs.getD i (R.d EL2iJ)) := rfl
      have e2 : fstE (crE p.cs) p.cs.length = check (p.cs.getD i (R.d EL2iJ)) := by rw [fstE_at hp (by rw [e]; exact h6) hi2, e]
      repeat' (first
        | ((with_reducible refine TOps.any ?_); refine TOps.callV env (by rfl) (by rfl) (by rfl) (cc) ?_)
        | refine GZp_i_2i_L2iJ ?_ ?_ ?_ ?_ ?_ ?_ ?_ ?_
        | with_reducible first | exact BzZq.mk | refine Tw.ret ?_ | refine ImZq.i fun h => ?_ | refine IkZq.i fun hk => ?_)
      exact ⟨rfl, by rw [prfE, if_neg h1, if_neg h2, if_neg h3, if_neg h4, if_neg h5, e2, if_pos h6], rfl⟩
  obtain rfl : i = p.cs.length := by omega
  have h6 : ¬ fstE (crE p.cs) p.cs.length ≠ 0 := by simpa using fstE_zero.2 hp
  by_cases h7 : chkE p.a p.b p.c p.v ≠ 0
  · repeat' (first
      | ((with_reducible refine TOps.any ?_); refine TOps.callV env (by rfl) (by rfl) (by rfl) (gc) ?_)
      | refine GZp_i_2i_L2iJ ?_ ?_ ?_ ?_ ?_ ?_ ?_ ?_
      | with_reducible first | exact BzZq.mk | refine Tw.ret ?_ | refine ImZq.i fun h => ?_ | refine IkZq.i fun hk => ?_)
    exact ⟨rfl, by rw [prfE, if_neg h1, if_neg h2, if_neg h3, if_neg h4, if_neg h5, if_neg h6, if_pos h7], rfl⟩
  have h7' : chkE p.a p.b p.c p.v = 0 := by simpa using h7
  rw [h7'] at gc
  by_cases h8 : p.a ≠ p.inks.length ∨ p.b ≠ 3
  · repeat' (first
      | ((with_reducible refine TOps.any ?_); refine TOps.callV env (by rfl) (by rfl) (by rfl) (gc) ?_)
      | refine GZp_i_2i_L2iJ ?_ ?_ ?_ ?_ ?_ ?_ ?_ ?_
      | with_reducible first | exact BzZq.mk | refine Tw.ret ?_ | refine ImZq.i fun h => ?_ | refine IkZq.i fun hk => ?_)
    all_goals exact ⟨rfl, by rw [prfE, if_neg h1, if_neg h2, if_neg h3, if_neg h4, if_neg h5, if_neg h6, if_neg h7, if_pos h8], rfl⟩
  have fin : prfE p = fstE (lbE p.v) (p.v.length / 3) := by rw [prfE, if_neg h1, if_neg h2, if_neg h3, if_neg h4, if_neg h5, if_neg h6, if_neg h7, if_neg h8]
  obtain ⟨inn, out, s, ea, eb, ec, g⟩ := chk_ok h7'
  obtain rfl : out = 3 := by omega
  have gl := g.len
  obtain ⟨n, hn⟩ : ∃ n, n = s ^ inn := ⟨_, rfl⟩
  rw [← hn] at gl
  have e3 : p.v.length / 3 = n := by omega
  rw [e3] at fin
  repeat' (first
    | ((with_reducible refine TOps.any ?_); refine TOps.callV env (by rfl) (by rfl) (by rfl) (gc) ?_)
    | refine GZp_i_2i_L2iJ ?_ ?_ ?_ ?_ ?_ ?_ ?_ ?_
    | with_reducible first | exact BzZq.mk | refine Tw.ret ?_ | refine ImZq.i fun h => ?_ | refine IkZq.i fun hk => ?_)
  clear gc nc inm
  refine Tw.loopK [] (fun i : Nat => i ≤ n ∧ ∀ k, k < i → lbE p.v k = 0) (fun i => n - i) (fun i => [(9, .lst Ei (p.v.drop (3 * i)))]) (fun _ => [none])
    ⟨0, ⟨by omega, fun k hk => by omega⟩, TWk.fcanon env [some 0] (by rfl) ?_⟩ (fun i hi => ?_)
  · repeat' (first
      | with_reducible first | exact Conj.nil | refine Conj.cons rfl ?_ | refine Conj.same ?_ | refine Conj.ask ?_ ?_
      | ((with_reducible refine Due.mk ?_); (first | with_reducible rfl | omega | assumption | decide | ((try simp only [goS] at *) <;> (try intro h) <;> (try intro h') <;> (try simp only [goS] at *) <;> (try simp only [rdi, rd2i, rdL2iJ, Int.toNat_natCast, Nat.add_zero] at *) <;> (try simp only [rng]) <;> (first | assumption | omega)) | (exact due_app0 (by omega)) | (exact due_app (by omega)) | (intros; simp; done) | (intros; simp; omega)))
      | with_reducible refine Due.mk ?_
      | omega)
  obtain ⟨hi, hp⟩ := hi
  have lj : (p.v.drop (3 * i)).length = 3 * (n - i) := by rw [List.length_drop]; omega
  rcases Nat.lt_or_ge i n with hi2 | hi2
  · have e0 : ∀ k, (p.v.drop (3 * i)).getD k 0 = p.v.getD (3 * i + k) 0 := fun k => by rw [List.getD_eq_getElem?_getD, List.getElem?_drop, ← List.getD_eq_getElem?_getD]
    have rc := refCheck_c ((p.v.drop (3 * i)).getD 0 0) ((p.v.drop (3 * i)).getD 1 0) ((p.v.drop (3 * i)).getD 2 0)
    have dn : p.v.drop (3 * (i + 1)) = List.drop (Int.toNat 3) (p.v.drop (3 * i)) := by rw [List.drop_drop]; rfl
    have e : labE ((p.v.drop (3 * i)).getD 0 0) ((p.v.drop (3 * i)).getD 1 0) ((p.v.drop (3 * i)).getD 2 0) = lbE p.v i := by rw [e0, e0, e0]; rfl
    rw [e] at rc
    by_cases h9 : lbE p.v i = 0
    · rw [h9] at rc
      repeat' (first
        | ((with_reducible refine TDr.any ?_); refine TDr.callE env (by first | rfl | assumption) (by rfl) (by rfl) ?_ (rc) (by rfl) (by rfl) ?_)
        | refine GZy_i_2i_L2iJ lj ?_ ?_ ?_ ?_ ?_ ?_ ?_ ?_
        | with_reducible first | exact BzZq.mk | refine Tw.ret ?_ | refine ImZq.i fun h => ?_ | refine IkZq.i fun hk => ?_)
      refine ⟨i + 1, ⟨by omega, fun k hk => ?_⟩, by omega, TWk.fcanon env [some 0] (by rfl) ?_⟩
      · by_cases e : k = i
        · subst e; exact h9
        · exact hp k (by omega)
      · repeat' (first
          | exact dn
          | refine GZ_i_2i_L2iJ ?_ ?_ ?_ ?_ ?_ ?_ ?_ ?_
          | with_reducible first | exact BzZq.mk | refine Tw.ret ?_ | refine ImZq.i fun h => ?_ | refine IkZq.i fun hk => ?_)
    · have e2 : fstE (lbE p.v) n = lbE p.v i := by rw [fstE_at hp h9 hi2]
      repeat' (first
        | ((with_reducible refine TDr.any ?_); refine TDr.callE env (by first | rfl | assumption) (by rfl) (by rfl) ?_ (rc) (by rfl) (by rfl) ?_)
        | refine GZy_i_2i_L2iJ lj ?_ ?_ ?_ ?_ ?_ ?_ ?_ ?_
        | with_reducible first | exact BzZq.mk | refine Tw.ret ?_ | refine ImZq.i fun h => ?_ | refine IkZq.i fun hk => ?_)
      exact ⟨rfl, by rw [fin, e2], rfl⟩
  obtain rfl : i = n := by omega
  repeat' (first
    | refine GZy_i_2i_L2iJ lj ?_ ?_ ?_ ?_ ?_ ?_ ?_ ?_
    | with_reducible first | exact BzZq.mk | refine Tw.ret ?_ | refine ImZq.i fun h => ?_ | refine IkZq.i fun hk => ?_)
  exact ⟨rfl, by rw [fin, fstE_zero.2 hp], rfl⟩
end Go.Proofs.Ytkapjajlkpepmaa
namespace Go.Proofs.Ytkapjajlkpepmaa
open Go Go.Lite
set_option linter.unusedVariables false
set_option linter.unusedSimpArgs false
set_option maxRecDepth 100000
set_option maxHeartbeats 4000000
-- @simp rd2i

theorem near_mono {a b d : Int} (hd : 0 < d) (h : a ≤ b) : near a d ≤ near b d := Int.ediv_le_ediv (by omega) (by omega)
theorem near_full {k d : Int} (hd : 0 < d) : near (k * d) d = k := by
  unfold near
  refine div_is (q := k) (r := d) (by omega) (by rw [Int.mul_assoc, Int.mul_comm d k]) (by omega) (by omega)
theorem near_zero {d : Int} (hd : 0 < d) : near 0 d = 0 := by have := near_full (k := 0) hd; rwa [Int.zero_mul] at this

/-- The part of the curve that holds x. -/
theorem seg_has {c : List (Int × Int)} (v : Valid c) {x : Int} (hx : 0 ≤ x ∧ x ≤ 65280) : seg c x (c.length - 2) + 1 < c.length ∧ (c.getD (seg c x (c.length - 2)) (0, 0)).1 ≤ x ∧ x ≤ (c.getD (seg c x (c.length - 2) + 1) (0, 0)).1 := by
  have hl := v.len
  have key : ∀ n, n + 1 < c.length → seg c x n ≤ n ∧ (c.getD (seg c x n) (0, 0)).1 ≤ x ∧ (x ≤ (c.getD (n + 1) (0, 0)).1 → x ≤ (c.getD (seg c x n + 1) (0, 0)).1) := by
    intro n
    induction n with
    | zero => intro h; have := v.first; simp only [seg]; omega
    | succ n ih =>
      intro h
      simp only [seg]
      split
      · exact ⟨by omega, by assumption, id⟩
      · obtain ⟨h1, h2, h3⟩ := ih (by omega)
        exact ⟨by omega, h2, fun _ => h3 (by omega)⟩
  obtain ⟨h1, h2, h3⟩ := key (c.length - 2) (by omega)
  refine ⟨by omega, h2, h3 ?_⟩
  have := v.last
  rw [show c.length - 2 + 1 = c.length - 1 by omega]
  omega

theorem rawAt_bd {c : List (Int × Int)} (v : Valid c) {x : Int} {i : Nat} (hi : i + 1 < c.length) (h : (c.getD i (0, 0)).1 ≤ x ∧ x ≤ (c.getD (i + 1) (0, 0)).1) : (c.getD i (0, 0)).2 ≤ rawAt c x i ∧ rawAt c x i ≤ (c.getD (i + 1) (0, 0)).2 := by
  have h1 := v.ord i hi
  have := near_bd (n := ((c.getD (i + 1) (0, 0)).2 - (c.getD i (0, 0)).2) * (x - (c.getD i (0, 0)).1)) (d := (c.getD (i + 1) (0, 0)).1 - (c.getD i (0, 0)).1) (k := (c.getD (i + 1) (0, 0)).2 - (c.getD i (0, 0)).2) (by omega)
    (Int.mul_nonneg (by omega) (by omega)) (Int.mul_le_mul_of_nonneg_left (by omega) (by omega))
  unfold rawAt
  omega

theorem raw_bd {c : List (Int × Int)} (v : Valid c) {x : Int} (hx : 0 ≤ x ∧ x ≤ 65280) : 0 ≤ raw c x ∧ raw c x ≤ (c.getD (c.length - 1) (0, 0)).2 := by
  obtain ⟨h1, h2, h3⟩ := seg_has v hx
  have h4 := rawAt_bd v h1 ⟨h2, h3⟩
  have h5 := v.rg (seg c x (c.length - 2)) (by omega)
  have h6 := v.mono (c.length - 1 - (seg c x (c.length - 2) + 1)) (seg c x (c.length - 2) + 1) (by omega)
  rw [show seg c x (c.length - 2) + 1 + (c.length - 1 - (seg c x (c.length - 2) + 1)) = c.length - 1 by omega] at h6
  unfold raw
  omega

theorem raw_mono {c : List (Int × Int)} (v : Valid c) {x y : Int} (hx : 0 ≤ x ∧ x ≤ 65280) (hy : y ≤ 65280) (h : x ≤ y) : raw c x ≤ raw c y := by
  obtain ⟨h1, h2, h3⟩ := seg_has v hx
  obtain ⟨k1, k2, k3⟩ := seg_has v (x := y) ⟨by omega, hy⟩
  unfold raw
  generalize seg c x (c.length - 2) = i at *
  generalize seg c y (c.length - 2) = j at *
  have h4 := rawAt_bd v h1 ⟨h2, h3⟩
  have k4 := rawAt_bd v k1 ⟨k2, k3⟩
  rcases Nat.lt_trichotomy i j with hij | hij | hij
  · have := v.mono (j - (i + 1)) (i + 1) (by omega)
    rw [show i + 1 + (j - (i + 1)) = j by omega] at this
    omega
  · subst hij
    have := v.ord i h1
    have := near_mono (d := (c.getD (i + 1) (0, 0)).1 - (c.getD i (0, 0)).1) (by omega) (Int.mul_le_mul_of_nonneg_left (show x - (c.getD i (0, 0)).1 ≤ y - (c.getD i (0, 0)).1 by omega) (show 0 ≤ (c.getD (i + 1) (0, 0)).2 - (c.getD i (0, 0)).2 by omega))
    unfold rawAt
    omega
  · -- x is in a later part than y: both are the point between
    have h7 := v.mono (i - (j + 1)) (j + 1) (by omega)
    rw [show j + 1 + (i - (j + 1)) = i by omega] at h7
    have e1 : x = (c.getD i (0, 0)).1 := by omega
    have e2 : i = j + 1 := by
      by_cases e : i = j + 1
      · exact e
      · omega
    subst e2
    have hx' := v.ord (j + 1) h1
    have hj := v.ord j k1
    have e3 : y = (c.getD (j + 1) (0, 0)).1 := by omega
    unfold rawAt
    rw [e1, e3, Int.sub_self, Int.mul_zero, near_zero (by omega), near_full (by omega)]
    omega

end Go.Proofs.Ytkapjajlkpepmaa
namespace Go.Proofs.Ytkapjajlkpepmaa
open Go Go.Lite
set_option linter.unusedVariables false
set_option linter.unusedSimpArgs false
set_option maxRecDepth 100000
set_option maxHeartbeats 4000000
-- @simp rdi

/-- All numbers from 0 to 255. -/
def inTone (l : List Int) : Prop := ∀ i, i < l.length → 0 ≤ l.getD i 0 ∧ l.getD i 0 ≤ 255
open Classical in
noncomputable def tonesE (l : List Int) (n : Int) : Int := if (l.length : Int) = n then if inTone l then 0 else 3 else 4
theorem tonesE_ok {l : List Int} {n : Int} : tonesE l n = 0 ↔ (l.length : Int) = n ∧ inTone l := by
  unfold tonesE
  split <;> (try split) <;> simp_all

theorem tones_c (l : List Int) (n : Int) (hl : Due (l.length ≤ 9223372036854775807)) : TC R Try.prog profile_Tones_f [.lst Ei l, .int .i64 n] [] (fun v X => v = .int .i64 (tonesE l n) ∧ X = []) := by
  refine tc0 env profile_Tones_s (by rfl) ?_
  dsimp only [Due] at hl
  dsimp only [profile_Tones_c]
  repeat' (first
    | refine GZ_i ?_ ?_ ?_ ?_ ?_ ?_ ?_ ?_
    | with_reducible first | exact BzZq.mk | refine Tw.ret ?_ | refine ImZq.i fun h => ?_ | refine IkZq.i fun hk => ?_)
  · exact ⟨rfl, by rw [tonesE, if_neg h], rfl⟩
  refine Tw.loopK [11, 12] (fun i : Nat => i ≤ l.length ∧ ∀ j, j < i → 0 ≤ l.getD j 0 ∧ l.getD j 0 ≤ 255) (fun i => l.length - i) (fun i => [(13, .int .i64 i)]) (fun _ => []) ⟨0, ⟨by omega, fun j hj => by omega⟩, TWk.fcanon env [] (by rfl) ?_⟩ (fun i hi => ?_)
  repeat' (first
    | refine ⟨i+1, ⟨by omega, ?_⟩, ?_, TWk.fcanon env [] (by rfl) ?_⟩
    | with_reducible first | refine Tw.seq ?_ | refine Tw.reg ?_ | refine Tw.block ?_ | refine Tw.scope ?_ | refine Tw.skip ?_ | refine Tw.exit ?_ | refine Tw.ret ?_ | refine seqN ?_ | refine seqR ?_ | refine seqE ?_ | refine rndN ?_ | refine blkN ?_ | refine blkR ?_ | refine blkE1 ?_ | refine blkE0 (by kernel_rfl) ?_ | refine scpN ?_ | refine scpR ?_ | refine scpE ?_ | refine TOps.nil ?_ | exact Conj.nil | refine Conj.cons rfl ?_ | refine Conj.same ?_ | refine Conj.ask ?_ ?_ | refine Tw.regd env ?_ | refine TDr.nil ⟨by kernel_rfl, ?_⟩
    | ((with_reducible refine TOps.any ?_); first | refine TOps.frunP env (by rfl) (by rfl) ?_ ?_ | (refine TOps.known (by rfl) ?_; refine TOps.strip env (by rfl) (by rfl) ?_ ?_) | refine TOps.on (by rfl) (by rfl) ?_)
    | ((with_reducible refine TDr.any ?_); refine TDr.frunP env (by rfl) (by rfl) ?_ ?_)
    | ((with_reducible refine Tw.any ?_); first | refine Tw.condT (by rfl) ?_ | refine Tw.condF (by rfl) ?_)
    | ((first | ((with_reducible refine TOps.any ?_); (fail_if_success refine TOps.known (by rfl) ?_); refine TOps.ask (by rfl) (fun h => ?_) (fun h => ?_)) | ((with_reducible refine TDr.any ?_); (fail_if_success refine TDr.known (by first | rfl | assumption) ?_); refine TDr.ask (by rfl) (fun h hk => ?_) (fun h => ?_)) | ((with_reducible refine Tw.any ?_); refine Tw.cond (by rfl) (fun h => ?_) (fun h => ?_))) <;> (try simp only [goS] at h) <;> (try simp only [rdi, Int.toNat_natCast, Nat.add_zero] at h))
    | ((with_reducible refine tret.any ?_); first | refine tret.ok (by rfl) ?_ | refine tret.okN (by rfl) ?_)
    | ((with_reducible refine Due.mk ?_); (first | with_reducible rfl | omega | assumption | decide | ((try simp only [goS] at *) <;> (try intro h) <;> (try intro h') <;> (try simp only [goS] at *) <;> (try simp only [rdi, Int.toNat_natCast, Nat.add_zero] at *) <;> (try simp only [rng]) <;> (first | assumption | omega)) | (exact due_app0 (by omega)) | (exact due_app (by omega)) | (intros; simp; done) | (intros; simp; omega)))
    | with_reducible refine Due.mk ?_
    | omega)
  · exact ⟨rfl, by rw [tonesE, if_pos (by assumption), if_neg]; intro hh; have := hh i (by omega); omega, rfl⟩
  · intro j hj
    by_cases e : j = i
    · subst e; omega
    · exact hi.2 j (by omega)
  repeat' (first
    | refine GZ_i ?_ ?_ ?_ ?_ ?_ ?_ ?_ ?_
    | with_reducible first | exact BzZq.mk | refine Tw.ret ?_ | refine ImZq.i fun h => ?_ | refine IkZq.i fun hk => ?_)
  exact ⟨rfl, by rw [tonesE, if_pos (by assumption), if_pos (show inTone l from fun j hj => hi.2 j (by omega))], rfl⟩
end Go.Proofs.Ytkapjajlkpepmaa
