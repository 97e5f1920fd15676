/- Profiles are checked. -/
import Derived.Test.YtogbkhopanaoiaaCnd1
import Derived.Test.YtogbkhopanaoiaaXDevicelinkDistances0
import Derived.Test.YtogbkhopanaoiaaCurve3
import Derived.Test.YtogbkhopanaoiaaCurve1
import Derived.Test.YtogbkhopanaoiaaGo
namespace Go.Proofs.Ytogbkhopanaoiaa
open Go Go.Lite
set_option linter.unusedVariables false
set_option linter.unusedSimpArgs false
set_option maxRecDepth 100000
set_option maxHeartbeats 4000000
-- @simp rdi rd2i rdL2iJ

structure Prf where
  nm : ByteArray
  inks : List ByteArray
  cs : List (List (Int × Int))
  a : Int
  b : Int
  c : Int
  v : List Int
abbrev encP (p : Prf) : List (TV A) := [.str p.nm, .lst Es p.inks, .lst EL2iJ p.cs, .int .i64 p.a, .int .i64 p.b, .int .i64 p.c, .lst Ei p.v]
structure PrfW (p : Prf) : Prop where
  nm : p.nm.size ≤ 9223372036854775807
  inks : p.inks.length ≤ 9223372036854775807
  inks' : ∀ y ∈ p.inks, Ws y
  cs : p.cs.length ≤ 9223372036854775807
  v : p.v.length ≤ 9223372036854775807
def crE (cs : List (List (Int × Int))) (i : Nat) : Int := check (cs.getD i [])
def lbE (v : List Int) (i : Nat) : Int := labE (v.getD (3 * i) 0) (v.getD (3 * i + 1) 0) (v.getD (3 * i + 2) 0)
noncomputable def prfE (p : Prf) : Int :=
  if isName p.nm = false then 6 else if 4 < p.inks.length then 2 else if p.inks.length = 0 then 1 else if namesE p.inks ≠ 0 then namesE p.inks
  else if p.cs.length ≠ p.inks.length then 4 else if fstE (crE p.cs) p.cs.length ≠ 0 then fstE (crE p.cs) p.cs.length
  else if chkE p.a p.b p.c p.v ≠ 0 then chkE p.a p.b p.c p.v else if p.a ≠ p.inks.length ∨ p.b ≠ 3 then 4 else fstE (lbE p.v) (p.v.length / 3)
structure PrfOk (p : Prf) (inn s : Nat) : Prop where
  nm : isName p.nm = true
  names : namesE p.inks = 0
  il : p.inks.length = inn
  cl : p.cs.length = inn
  cv : ∀ i, i < inn → Valid (p.cs.getD i [])
  ea : p.a = inn
  eb : p.b = 3
  ec : p.c = s
  g : GOk inn 3 s p.v
  lab : ∀ i, i < s ^ inn → labOk (p.v.getD (3 * i) 0) (p.v.getD (3 * i + 1) 0) (p.v.getD (3 * i + 2) 0)
theorem prfE_ok {p : Prf} (h : prfE p = 0) : ∃ inn s : Nat, PrfOk p inn s := by
  unfold prfE at h
  by_cases h1 : isName p.nm = false
  · rw [if_pos h1] at h; omega
  rw [if_neg h1] at h
  by_cases h2 : 4 < p.inks.length
  · rw [if_pos h2] at h; omega
  rw [if_neg h2] at h
  by_cases h3 : p.inks.length = 0
  · rw [if_pos h3] at h; omega
  rw [if_neg h3] at h
  by_cases h4 : namesE p.inks ≠ 0
  · rw [if_pos h4] at h; exact absurd h h4
  rw [if_neg h4] at h
  by_cases h5 : p.cs.length ≠ p.inks.length
  · rw [if_pos h5] at h; omega
  rw [if_neg h5] at h
  by_cases h6 : fstE (crE p.cs) p.cs.length ≠ 0
  · rw [if_pos h6] at h; exact absurd h h6
  rw [if_neg h6] at h
  by_cases h7 : chkE p.a p.b p.c p.v ≠ 0
  · rw [if_pos h7] at h; exact absurd h h7
  rw [if_neg h7] at h
  by_cases h8 : p.a ≠ p.inks.length ∨ p.b ≠ 3
  · rw [if_pos h8] at h; omega
  rw [if_neg h8] at h
  have h6' : fstE (crE p.cs) p.cs.length = 0 := by simpa using h6
  obtain ⟨inn, out, s, ea, eb, ec, g⟩ := chk_ok (show chkE p.a p.b p.c p.v = 0 by simpa using h7)
  obtain rfl : out = 3 := by omega
  have gl := g.len
  refine ⟨inn, s, by simpa using h1, by simpa using h4, by omega, by omega, fun i hi => check_ok (fstE_zero.1 h6' i (by omega)), ea, by omega, ec, g, fun i hi => ?_⟩
  have := fstE_zero.1 h i (by omega)
  exact labE_ok.1 this
theorem prfCheck_c (p : Prf) (w : Due (PrfW p)) : TC R Try.prog profile_Check_f [.agg (encP p)] [] (fun v X => v = .int .i64 (prfE p) ∧ X = []) := by
  dsimp only [Due] at w
  have inm := isName_c p.nm w.nm
  have nc := names_c p.inks w.inks w.inks'
  have gc := gcheck_c p.a p.b p.c p.v
  have w1 := w.inks
  have w2 := w.cs
  have w3 := w.v
  refine tc0 env profile_Check_s (by rfl) ?_
  dsimp only [profile_Check_c, encP]
  by_cases h1 : isName p.nm = false
  · rw [h1] at inm
    repeat' (first
      | ((with_reducible refine TOps.any ?_); refine TOps.callV env (by rfl) (by rfl) (by rfl) (inm) ?_)
      | refine GZp_i_2i_L2iJ ?_ ?_ ?_ ?_ ?_ ?_ ?_ ?_
      | with_reducible first | exact BzZq.mk | refine Tw.ret ?_ | refine ImZq.i fun h => ?_ | refine IkZq.i fun hk => ?_)
    exact ⟨rfl, by rw [prfE, if_pos h1], rfl⟩
  rw [show isName p.nm = true by simpa using h1] at inm
  by_cases h2 : 4 < p.inks.length
  · repeat' (first
      | ((with_reducible refine TOps.any ?_); refine TOps.callV env (by rfl) (by rfl) (by rfl) (inm) ?_)
      | refine GZp_i_2i_L2iJ ?_ ?_ ?_ ?_ ?_ ?_ ?_ ?_
      | with_reducible first | exact BzZq.mk | refine Tw.ret ?_ | refine ImZq.i fun h => ?_ | refine IkZq.i fun hk => ?_)
    exact ⟨rfl, by rw [prfE, if_neg h1, if_pos h2], rfl⟩
  by_cases h3 : p.inks.length = 0
  · repeat' (first
      | ((with_reducible refine TOps.any ?_); refine TOps.callV env (by rfl) (by rfl) (by rfl) (inm) ?_)
      | refine GZp_i_2i_L2iJ ?_ ?_ ?_ ?_ ?_ ?_ ?_ ?_
      | with_reducible first | exact BzZq.mk | refine Tw.ret ?_ | refine ImZq.i fun h => ?_ | refine IkZq.i fun hk => ?_)
    exact ⟨rfl, by rw [prfE, if_neg h1, if_neg h2, if_pos h3], rfl⟩
  by_cases h4 : namesE p.inks ≠ 0
  · repeat' (first
      | ((with_reducible refine TOps.any ?_); refine TOps.callV env (by rfl) (by rfl) (by rfl) (inm) ?_)
      | ((with_reducible refine TOps.any ?_); refine TOps.callV env (by rfl) (by rfl) (by rfl) (nc) ?_)
      | refine GZp_i_2i_L2iJ ?_ ?_ ?_ ?_ ?_ ?_ ?_ ?_
      | with_reducible first | exact BzZq.mk | refine Tw.ret ?_ | refine ImZq.i fun h => ?_ | refine IkZq.i fun hk => ?_)
    exact ⟨rfl, by rw [prfE, if_neg h1, if_neg h2, if_neg h3, if_pos h4], rfl⟩
  rw [show namesE p.inks = 0 by simpa using h4] at nc
  by_cases h5 : p.cs.length ≠ p.inks.length
  · repeat' (first
      | ((with_reducible refine TOps.any ?_); refine TOps.callV env (by rfl) (by rfl) (by rfl) (inm) ?_)
      | ((with_reducible refine TOps.any ?_); refine TOps.callV env (by rfl) (by rfl) (by rfl) (nc) ?_)
      | refine GZp_i_2i_L2iJ ?_ ?_ ?_ ?_ ?_ ?_ ?_ ?_
      | with_reducible first | exact BzZq.mk | refine Tw.ret ?_ | refine ImZq.i fun h => ?_ | refine IkZq.i fun hk => ?_)
    exact ⟨rfl, by rw [prfE, if_neg h1, if_neg h2, if_neg h3, if_neg h4, if_pos h5], rfl⟩
  have e5 : p.cs.length = p.inks.length := by omega
  repeat' (first
    | ((with_reducible refine TOps.any ?_); refine TOps.callV env (by rfl) (by rfl) (by rfl) (inm) ?_)
    | ((with_reducible refine TOps.any ?_); refine TOps.callV env (by rfl) (by rfl) (by rfl) (nc) ?_)
    | refine GZp_i_2i_L2iJ ?_ ?_ ?_ ?_ ?_ ?_ ?_ ?_
    | with_reducible first | exact BzZq.mk | refine Tw.ret ?_ | refine ImZq.i fun h => ?_ | refine IkZq.i fun hk => ?_)
  refine Tw.loopK [1, 38, 39] (fun i : Nat => i ≤ p.cs.length ∧ ∀ k, k < i → crE p.cs k = 0) (fun i => p.cs.length - i) (fun i => [(40, .int .i64 i)]) (fun _ => [some (.cells (encP p))])
    ⟨0, ⟨by omega, fun k hk => by omega⟩, TWk.fcanon env [some 0] (by rfl) ?_⟩ (fun i hi => ?_)
  · repeat' (first
      | with_reducible first | exact Conj.nil | refine Conj.cons rfl ?_ | refine Conj.same ?_ | refine Conj.ask ?_ ?_
      | ((with_reducible refine Due.mk ?_); (first | with_reducible rfl | omega | assumption | decide | ((try simp only [goS] at *) <;> (try intro h) <;> (try intro h') <;> (try simp only [goS] at *) <;> (try simp only [rdi, rd2i, rdL2iJ, Int.toNat_natCast, Nat.add_zero] at *) <;> (try simp only [rng]) <;> (first | assumption | omega)) | (exact due_app0 (by omega)) | (exact due_app (by omega)) | (intros; simp; done) | (intros; simp; omega)))
      | with_reducible refine Due.mk ?_
      | omega)
  obtain ⟨hi, hp⟩ := hi
  rcases Nat.lt_or_ge i p.cs.length with hi2 | hi2
  · have cc := check_c (p.cs.getD i (R.d EL2iJ))
    by_cases h6 : check (p.cs.getD i (R.d EL2iJ)) = 0
    · rw [h6] at cc
      repeat' (first
        | ((with_reducible refine TOps.any ?_); refine TOps.callV env (by rfl) (by rfl) (by rfl) (cc) ?_)
        | refine GZp_i_2i_L2iJ ?_ ?_ ?_ ?_ ?_ ?_ ?_ ?_
        | with_reducible first | exact BzZq.mk | refine Tw.ret ?_ | refine ImZq.i fun h => ?_ | refine IkZq.i fun hk => ?_)
      refine ⟨i + 1, ⟨by omega, fun k hk => ?_⟩, by omega, TWk.fcanon env [some 0] (by rfl) ?_⟩
      · by_cases e : k = i
        · subst e; exact h6
        · exact hp k (by omega)
      · repeat' (first
          | refine GZ_i_2i_L2iJ ?_ ?_ ?_ ?_ ?_ ?_ ?_ ?_
          | with_reducible first | exact BzZq.mk | refine Tw.ret ?_ | refine ImZq.i fun h => ?_ | refine IkZq.i fun hk => ?_)
    · have e : crE p.cs i = check (p.cs.getD i (R.d EL2iJ)) := rfl
      have e2 : fstE (crE p.cs) p.cs.length = check (p.cs.getD i (R.d EL2iJ)) := by rw [fstE_at hp (by rw [e]; exact h6) hi2, e]
      repeat' (first
        | ((with_reducible refine TOps.any ?_); refine TOps.callV env (by rfl) (by rfl) (by rfl) (cc) ?_)
        | refine GZp_i_2i_L2iJ ?_ ?_ ?_ ?_ ?_ ?_ ?_ ?_
        | with_reducible first | exact BzZq.mk | refine Tw.ret ?_ | refine ImZq.i fun h => ?_ | refine IkZq.i fun hk => ?_)
      exact ⟨rfl, by rw [prfE, if_neg h1, if_neg h2, if_neg h3, if_neg h4, if_neg h5, e2, if_pos h6], rfl⟩
  obtain rfl : i = p.cs.length := by omega
  have h6 : ¬ fstE (crE p.cs) p.cs.length ≠ 0 := by simpa using fstE_zero.2 hp
  by_cases h7 : chkE p.a p.b p.c p.v ≠ 0
  · repeat' (first
      | ((with_reducible refine TOps.any ?_); refine TOps.callV env (by rfl) (by rfl) (by rfl) (gc) ?_)
      | refine GZp_i_2i_L2iJ ?_ ?_ ?_ ?_ ?_ ?_ ?_ ?_
      | with_reducible first | exact BzZq.mk | refine Tw.ret ?_ | refine ImZq.i fun h => ?_ | refine IkZq.i fun hk => ?_)
    exact ⟨rfl, by rw [prfE, if_neg h1, if_neg h2, if_neg h3, if_neg h4, if_neg h5, if_neg h6, if_pos h7], rfl⟩
  have h7' : chkE p.a p.b p.c p.v = 0 := by simpa using h7
  rw [h7'] at gc
  by_cases h8 : p.a ≠ p.inks.length ∨ p.b ≠ 3
  · repeat' (first
      | ((with_reducible refine TOps.any ?_); refine TOps.callV env (by rfl) (by rfl) (by rfl) (gc) ?_)
      | refine GZp_i_2i_L2iJ ?_ ?_ ?_ ?_ ?_ ?_ ?_ ?_
      | with_reducible first | exact BzZq.mk | refine Tw.ret ?_ | refine ImZq.i fun h => ?_ | refine IkZq.i fun hk => ?_)
    all_goals exact ⟨rfl, by rw [prfE, if_neg h1, if_neg h2, if_neg h3, if_neg h4, if_neg h5, if_neg h6, if_neg h7, if_pos h8], rfl⟩
  have fin : prfE p = fstE (lbE p.v) (p.v.length / 3) := by rw [prfE, if_neg h1, if_neg h2, if_neg h3, if_neg h4, if_neg h5, if_neg h6, if_neg h7, if_neg h8]
  obtain ⟨inn, out, s, ea, eb, ec, g⟩ := chk_ok h7'
  obtain rfl : out = 3 := by omega
  have gl := g.len
  obtain ⟨n, hn⟩ : ∃ n, n = s ^ inn := ⟨_, rfl⟩
  rw [← hn] at gl
  have e3 : p.v.length / 3 = n := by omega
  rw [e3] at fin
  repeat' (first
    | ((with_reducible refine TOps.any ?_); refine TOps.callV env (by rfl) (by rfl) (by rfl) (gc) ?_)
    | refine GZp_i_2i_L2iJ ?_ ?_ ?_ ?_ ?_ ?_ ?_ ?_
    | with_reducible first | exact BzZq.mk | refine Tw.ret ?_ | refine ImZq.i fun h => ?_ | refine IkZq.i fun hk => ?_)
  clear gc nc inm
  refine Tw.loopK [] (fun i : Nat => i ≤ n ∧ ∀ k, k < i → lbE p.v k = 0) (fun i => n - i) (fun i => [(9, .lst Ei (p.v.drop (3 * i)))]) (fun _ => [none])
    ⟨0, ⟨by omega, fun k hk => by omega⟩, TWk.fcanon env [some 0] (by rfl) ?_⟩ (fun i hi => ?_)
  · repeat' (first
      | with_reducible first | exact Conj.nil | refine Conj.cons rfl ?_ | refine Conj.same ?_ | refine Conj.ask ?_ ?_
      | ((with_reducible refine Due.mk ?_); (first | with_reducible rfl | omega | assumption | decide | ((try simp only [goS] at *) <;> (try intro h) <;> (try intro h') <;> (try simp only [goS] at *) <;> (try simp only [rdi, rd2i, rdL2iJ, Int.toNat_natCast, Nat.add_zero] at *) <;> (try simp only [rng]) <;> (first | assumption | omega)) | (exact due_app0 (by omega)) | (exact due_app (by omega)) | (intros; simp; done) | (intros; simp; omega)))
      | with_reducible refine Due.mk ?_
      | omega)
  obtain ⟨hi, hp⟩ := hi
  have lj : (p.v.drop (3 * i)).length = 3 * (n - i) := by rw [List.length_drop]; omega
  rcases Nat.lt_or_ge i n with hi2 | hi2
  · have e0 : ∀ k, (p.v.drop (3 * i)).getD k 0 = p.v.getD (3 * i + k) 0 := fun k => by rw [List.getD_eq_getElem?_getD, List.getElem?_drop, ← List.getD_eq_getElem?_getD]
    have rc := refCheck_c ((p.v.drop (3 * i)).getD 0 0) ((p.v.drop (3 * i)).getD 1 0) ((p.v.drop (3 * i)).getD 2 0)
    have dn : p.v.drop (3 * (i + 1)) = List.drop (Int.toNat 3) (p.v.drop (3 * i)) := by rw [List.drop_drop]; rfl
    have e : labE ((p.v.drop (3 * i)).getD 0 0) ((p.v.drop (3 * i)).getD 1 0) ((p.v.drop (3 * i)).getD 2 0) = lbE p.v i := by rw [e0, e0, e0]; rfl
    rw [e] at rc
    by_cases h9 : lbE p.v i = 0
    · rw [h9] at rc
      repeat' (first
        | ((with_reducible refine TDr.any ?_); refine TDr.callE env (by first | rfl | assumption) (by rfl) (by rfl) ?_ (rc) (by rfl) (by rfl) ?_)
        | refine GZy_i_2i_L2iJ lj ?_ ?_ ?_ ?_ ?_ ?_ ?_ ?_
        | with_reducible first | exact BzZq.mk | refine Tw.ret ?_ | refine ImZq.i fun h => ?_ | refine IkZq.i fun hk => ?_)
      refine ⟨i + 1, ⟨by omega, fun k hk => ?_⟩, by omega, TWk.fcanon env [some 0] (by rfl) ?_⟩
      · by_cases e : k = i
        · subst e; exact h9
        · exact hp k (by omega)
      · repeat' (first
          | exact dn
          | refine GZ_i_2i_L2iJ ?_ ?_ ?_ ?_ ?_ ?_ ?_ ?_
          | with_reducible first | exact BzZq.mk | refine Tw.ret ?_ | refine ImZq.i fun h => ?_ | refine IkZq.i fun hk => ?_)
    · have e2 : fstE (lbE p.v) n = lbE p.v i := by rw [fstE_at hp h9 hi2]
      repeat' (first
        | ((with_reducible refine TDr.any ?_); refine TDr.callE env (by first | rfl | assumption) (by rfl) (by rfl) ?_ (rc) (by rfl) (by rfl) ?_)
        | refine GZy_i_2i_L2iJ lj ?_ ?_ ?_ ?_ ?_ ?_ ?_ ?_
        | with_reducible first | exact BzZq.mk | refine Tw.ret ?_ | refine ImZq.i fun h => ?_ | refine IkZq.i fun hk => ?_)
      exact ⟨rfl, by rw [fin, e2], rfl⟩
  obtain rfl : i = n := by omega
  repeat' (first
    | refine GZy_i_2i_L2iJ lj ?_ ?_ ?_ ?_ ?_ ?_ ?_ ?_
    | with_reducible first | exact BzZq.mk | refine Tw.ret ?_ | refine ImZq.i fun h => ?_ | refine IkZq.i fun hk => ?_)
  exact ⟨rfl, by rw [fin, fstE_zero.2 hp], rfl⟩
end Go.Proofs.Ytogbkhopanaoiaa
