/- Conditions are checked. -/
import Derived.Test.YtogbkhopanaoiaaCnd2
import Derived.Test.YtogbkhopanaoiaaGo
namespace Go.Proofs.Ytogbkhopanaoiaa
open Go Go.Lite
set_option linter.unusedVariables false
set_option linter.unusedSimpArgs false
set_option maxRecDepth 100000
set_option maxHeartbeats 4000000
-- @simp rdi rd2i

structure Cnd where
  inks : List ByteArray
  pr : List Int
  li : List Int
  ga : Int
  gb : Int
  gc : Int
  gv : List Int
  ra : Int
  rb : Int
  rc : Int
  rv : List Int
  sp : List Sp
  tot : Int
abbrev encC (c : Cnd) : List (TV A) := [.lst Es c.inks, .lst Ei c.pr, .lst Ei c.li, .int .i64 c.ga, .int .i64 c.gb, .int .i64 c.gc, .lst Ei c.gv, .int .i64 c.ra, .int .i64 c.rb, .int .i64 c.rc, .lst Ei c.rv, .lst Es6iL2iJLiJ c.sp, .int .i64 c.tot]
/-- What the reader of a law's argument knows. -/
structure CndW (c : Cnd) : Prop where
  inks : c.inks.length ≤ 9223372036854775807
  inks' : ∀ y ∈ c.inks, Ws y
  pr : c.pr.length ≤ 9223372036854775807
  li : c.li.length ≤ 9223372036854775807
  gv : c.gv.length ≤ 9223372036854775807
  rv : c.rv.length ≤ 9223372036854775807
  sp : c.sp.length ≤ 9223372036854775807
  sp' : ∀ y ∈ c.sp, Ws6iL2iJLiJ y
noncomputable def spP (c : Cnd) (i : Nat) : Int := if (c.sp.getD i dS).2.2.2.2.2.2.2.2.length ≠ 4 ∨ c.pr.length ≠ 4 then 4 else 0
noncomputable def cndE (c : Cnd) : Int :=
  if 8 < c.inks.length then 2 else if c.inks.length = 0 then 1 else if namesE c.inks ≠ 0 then namesE c.inks
  else if (c.pr.length ≠ 0 ∧ c.pr.length ≠ 4) ∨ c.li.length ≠ c.inks.length then 4
  else if dsE c.pr c.inks.length ≠ 0 then dsE c.pr c.inks.length else if dsE c.li c.inks.length ≠ 0 then dsE c.li c.inks.length
  else if tbE c.ga c.gb c.gc c.gv 1 c.inks.length ≠ 0 then tbE c.ga c.gb c.gc c.gv 1 c.inks.length
  else if tbE c.ra c.rb c.rc c.rv 3 c.inks.length ≠ 0 then tbE c.ra c.rb c.rc c.rv 3 c.inks.length
  else if spLE c.sp ≠ 0 then spLE c.sp else if fstE (spP c) c.sp.length ≠ 0 then fstE (spP c) c.sp.length
  else if c.tot < 0 ∨ 2040 < c.tot then 3 else 0
structure CndOk (c : Cnd) : Prop where
  n : 1 ≤ c.inks.length ∧ c.inks.length ≤ 8
  nm : namesE c.inks = 0
  pr : c.pr.length = 0 ∨ c.pr.length = 4
  li : c.li.length = c.inks.length
  dp : dsE c.pr c.inks.length = 0
  gt : tbE c.ga c.gb c.gc c.gv 1 c.inks.length = 0
  rt : tbE c.ra c.rb c.rc c.rv 3 c.inks.length = 0
  sp : libOk c.sp
  sp4 : ∀ i, i < c.sp.length → (c.sp.getD i dS).2.2.2.2.2.2.2.2.length = 4 ∧ c.pr.length = 4
  tot : 0 ≤ c.tot ∧ c.tot ≤ 2040
theorem cndE_ok {c : Cnd} (h : cndE c = 0) : CndOk c := by
  unfold cndE at h
  by_cases h1 : 8 < c.inks.length
  · rw [if_pos h1] at h; omega
  rw [if_neg h1] at h
  by_cases h2 : c.inks.length = 0
  · rw [if_pos h2] at h; omega
  rw [if_neg h2] at h
  by_cases h3 : namesE c.inks ≠ 0
  · rw [if_pos h3] at h; exact absurd h h3
  rw [if_neg h3] at h
  by_cases h4 : (c.pr.length ≠ 0 ∧ c.pr.length ≠ 4) ∨ c.li.length ≠ c.inks.length
  · rw [if_pos h4] at h; omega
  rw [if_neg h4] at h
  by_cases h5 : dsE c.pr c.inks.length ≠ 0
  · rw [if_pos h5] at h; exact absurd h h5
  rw [if_neg h5] at h
  by_cases h6 : dsE c.li c.inks.length ≠ 0
  · rw [if_pos h6] at h; exact absurd h h6
  rw [if_neg h6] at h
  by_cases h7 : tbE c.ga c.gb c.gc c.gv 1 c.inks.length ≠ 0
  · rw [if_pos h7] at h; exact absurd h h7
  rw [if_neg h7] at h
  by_cases h8 : tbE c.ra c.rb c.rc c.rv 3 c.inks.length ≠ 0
  · rw [if_pos h8] at h; exact absurd h h8
  rw [if_neg h8] at h
  by_cases h9 : spLE c.sp ≠ 0
  · rw [if_pos h9] at h; exact absurd h h9
  rw [if_neg h9] at h
  by_cases h10 : fstE (spP c) c.sp.length ≠ 0
  · rw [if_pos h10] at h; exact absurd h h10
  rw [if_neg h10] at h
  by_cases h11 : c.tot < 0 ∨ 2040 < c.tot
  · rw [if_pos h11] at h; omega
  refine ⟨by omega, by simpa using h3, by omega, by omega, by simpa using h5, by simpa using h7, by simpa using h8, spLE_ok (by simpa using h9), fun i hi => ?_, by omega⟩
  have h12 := fstE_zero.1 (show fstE (spP c) c.sp.length = 0 by simpa using h10) i hi
  unfold spP at h12
  split at h12
  · omega
  · omega
theorem condCheck_c (c : Cnd) (w : Due (CndW c)) : TC R Try.prog condition_Check_f [.agg (encC c)] [] (fun v X => v = .int .i64 (cndE c) ∧ X = []) := by
  dsimp only [Due] at w
  have nc := names_c c.inks w.inks w.inks'
  have d1 := distinct_c c.pr c.inks.length w.pr
  have d2 := distinct_c c.li c.inks.length w.li
  have t1 := table_c c.ga c.gb c.gc c.gv 1 c.inks.length w.gv
  have t2 := table_c c.ra c.rb c.rc c.rv 3 c.inks.length w.rv
  have sc := spCheckF_c c.sp w.sp w.sp'
  have w1 := w.inks
  have w2 := w.pr
  have w3 := w.li
  have w4 := w.sp
  refine tc0 env condition_Check_s (by rfl) ?_
  dsimp only [condition_Check_c, encC]
  by_cases h1 : 8 < c.inks.length
  · repeat' (first
      | refine GZp_i_2i ?_ ?_ ?_ ?_ ?_ ?_ ?_ ?_
      | with_reducible first | exact BzZq.mk | refine Tw.ret ?_ | refine ImZq.i fun h => ?_ | refine IkZq.i fun hk => ?_)
    exact ⟨rfl, by rw [cndE, if_pos h1], rfl⟩
  by_cases h2 : c.inks.length = 0
  · repeat' (first
      | refine GZp_i_2i ?_ ?_ ?_ ?_ ?_ ?_ ?_ ?_
      | with_reducible first | exact BzZq.mk | refine Tw.ret ?_ | refine ImZq.i fun h => ?_ | refine IkZq.i fun hk => ?_)
    exact ⟨rfl, by rw [cndE, if_neg h1, if_pos h2], rfl⟩
  by_cases h3 : namesE c.inks ≠ 0
  · repeat' (first
      | ((with_reducible refine TOps.any ?_); refine TOps.callV env (by rfl) (by rfl) (by rfl) (nc) ?_)
      | refine GZp_i_2i ?_ ?_ ?_ ?_ ?_ ?_ ?_ ?_
      | with_reducible first | exact BzZq.mk | refine Tw.ret ?_ | refine ImZq.i fun h => ?_ | refine IkZq.i fun hk => ?_)
    exact ⟨rfl, by rw [cndE, if_neg h1, if_neg h2, if_pos h3], rfl⟩
  rw [show namesE c.inks = 0 by simpa using h3] at nc
  by_cases h4 : (c.pr.length ≠ 0 ∧ c.pr.length ≠ 4) ∨ c.li.length ≠ c.inks.length
  · repeat' (first
      | ((with_reducible refine TOps.any ?_); refine TOps.callV env (by rfl) (by rfl) (by rfl) (nc) ?_)
      | refine GZp_i_2i ?_ ?_ ?_ ?_ ?_ ?_ ?_ ?_
      | with_reducible first | exact BzZq.mk | refine Tw.ret ?_ | refine ImZq.i fun h => ?_ | refine IkZq.i fun hk => ?_)
    all_goals exact ⟨rfl, by rw [cndE, if_neg h1, if_neg h2, if_neg h3, if_pos h4], rfl⟩
  by_cases h5 : dsE c.pr c.inks.length ≠ 0
  · repeat' (first
      | ((with_reducible refine TOps.any ?_); refine TOps.callV env (by rfl) (by rfl) (by rfl) (nc) ?_)
      | ((with_reducible refine TOps.any ?_); refine TOps.callV env (by rfl) (by rfl) (by rfl) (d1) ?_)
      | refine GZp_i_2i ?_ ?_ ?_ ?_ ?_ ?_ ?_ ?_
      | with_reducible first | exact BzZq.mk | refine Tw.ret ?_ | refine ImZq.i fun h => ?_ | refine IkZq.i fun hk => ?_)
    all_goals exact ⟨rfl, by rw [cndE, if_neg h1, if_neg h2, if_neg h3, if_neg h4, if_pos h5], rfl⟩
  rw [show dsE c.pr c.inks.length = 0 by simpa using h5] at d1
  by_cases h6 : dsE c.li c.inks.length ≠ 0
  · repeat' (first
      | ((with_reducible refine TOps.any ?_); refine TOps.callV env (by rfl) (by rfl) (by rfl) (nc) ?_)
      | ((with_reducible refine TOps.any ?_); refine TOps.callV env (by rfl) (by rfl) (by rfl) (d1) ?_)
      | ((with_reducible refine TOps.any ?_); refine TOps.callV env (by rfl) (by rfl) (by rfl) (d2) ?_)
      | refine GZp_i_2i ?_ ?_ ?_ ?_ ?_ ?_ ?_ ?_
      | with_reducible first | exact BzZq.mk | refine Tw.ret ?_ | refine ImZq.i fun h => ?_ | refine IkZq.i fun hk => ?_)
    all_goals exact ⟨rfl, by rw [cndE, if_neg h1, if_neg h2, if_neg h3, if_neg h4, if_neg h5, if_pos h6], rfl⟩
  rw [show dsE c.li c.inks.length = 0 by simpa using h6] at d2
  by_cases h7 : tbE c.ga c.gb c.gc c.gv 1 c.inks.length ≠ 0
  · repeat' (first
      | ((with_reducible refine TOps.any ?_); refine TOps.callV env (by rfl) (by rfl) (by rfl) (nc) ?_)
      | ((with_reducible refine TOps.any ?_); refine TOps.callV env (by rfl) (by rfl) (by rfl) (d1) ?_)
      | ((with_reducible refine TOps.any ?_); refine TOps.callV env (by rfl) (by rfl) (by rfl) (d2) ?_)
      | ((with_reducible refine TOps.any ?_); refine TOps.callV env (by rfl) (by rfl) (by rfl) (t1) ?_)
      | refine GZp_i_2i ?_ ?_ ?_ ?_ ?_ ?_ ?_ ?_
      | with_reducible first | exact BzZq.mk | refine Tw.ret ?_ | refine ImZq.i fun h => ?_ | refine IkZq.i fun hk => ?_)
    all_goals exact ⟨rfl, by rw [cndE, if_neg h1, if_neg h2, if_neg h3, if_neg h4, if_neg h5, if_neg h6, if_pos h7], rfl⟩
  rw [show tbE c.ga c.gb c.gc c.gv 1 c.inks.length = 0 by simpa using h7] at t1
  by_cases h8 : tbE c.ra c.rb c.rc c.rv 3 c.inks.length ≠ 0
  · repeat' (first
      | ((with_reducible refine TOps.any ?_); refine TOps.callV env (by rfl) (by rfl) (by rfl) (nc) ?_)
      | ((with_reducible refine TOps.any ?_); refine TOps.callV env (by rfl) (by rfl) (by rfl) (d1) ?_)
      | ((with_reducible refine TOps.any ?_); refine TOps.callV env (by rfl) (by rfl) (by rfl) (d2) ?_)
      | ((with_reducible refine TOps.any ?_); refine TOps.callV env (by rfl) (by rfl) (by rfl) (t1) ?_)
      | ((with_reducible refine TOps.any ?_); refine TOps.callV env (by rfl) (by rfl) (by rfl) (t2) ?_)
      | refine GZp_i_2i ?_ ?_ ?_ ?_ ?_ ?_ ?_ ?_
      | with_reducible first | exact BzZq.mk | refine Tw.ret ?_ | refine ImZq.i fun h => ?_ | refine IkZq.i fun hk => ?_)
    all_goals exact ⟨rfl, by rw [cndE, if_neg h1, if_neg h2, if_neg h3, if_neg h4, if_neg h5, if_neg h6, if_neg h7, if_pos h8], rfl⟩
  rw [show tbE c.ra c.rb c.rc c.rv 3 c.inks.length = 0 by simpa using h8] at t2
  by_cases h9 : spLE c.sp ≠ 0
  · repeat' (first
      | ((with_reducible refine TOps.any ?_); refine TOps.callV env (by rfl) (by rfl) (by rfl) (nc) ?_)
      | ((with_reducible refine TOps.any ?_); refine TOps.callV env (by rfl) (by rfl) (by rfl) (d1) ?_)
      | ((with_reducible refine TOps.any ?_); refine TOps.callV env (by rfl) (by rfl) (by rfl) (d2) ?_)
      | ((with_reducible refine TOps.any ?_); refine TOps.callV env (by rfl) (by rfl) (by rfl) (t1) ?_)
      | ((with_reducible refine TOps.any ?_); refine TOps.callV env (by rfl) (by rfl) (by rfl) (t2) ?_)
      | ((with_reducible refine TOps.any ?_); refine TOps.callV env (by rfl) (by rfl) (by rfl) (sc) ?_)
      | refine GZp_i_2i ?_ ?_ ?_ ?_ ?_ ?_ ?_ ?_
      | with_reducible first | exact BzZq.mk | refine Tw.ret ?_ | refine ImZq.i fun h => ?_ | refine IkZq.i fun hk => ?_)
    all_goals exact ⟨rfl, by rw [cndE, if_neg h1, if_neg h2, if_neg h3, if_neg h4, if_neg h5, if_neg h6, if_neg h7, if_neg h8, if_pos h9], rfl⟩
  rw [show spLE c.sp = 0 by simpa using h9] at sc
  repeat' (first
    | ((with_reducible refine TOps.any ?_); refine TOps.callV env (by rfl) (by rfl) (by rfl) (nc) ?_)
    | ((with_reducible refine TOps.any ?_); refine TOps.callV env (by rfl) (by rfl) (by rfl) (d1) ?_)
    | ((with_reducible refine TOps.any ?_); refine TOps.callV env (by rfl) (by rfl) (by rfl) (d2) ?_)
    | ((with_reducible refine TOps.any ?_); refine TOps.callV env (by rfl) (by rfl) (by rfl) (t1) ?_)
    | ((with_reducible refine TOps.any ?_); refine TOps.callV env (by rfl) (by rfl) (by rfl) (t2) ?_)
    | ((with_reducible refine TOps.any ?_); refine TOps.callV env (by rfl) (by rfl) (by rfl) (sc) ?_)
    | refine GZp_i_2i ?_ ?_ ?_ ?_ ?_ ?_ ?_ ?_
    | with_reducible first | exact BzZq.mk | refine Tw.ret ?_ | refine ImZq.i fun h => ?_ | refine IkZq.i fun hk => ?_)
  have el : c.sp.length = c.sp.length := rfl
  refine Tw.loopK [1, 79, 80] (fun i : Nat => i ≤ c.sp.length ∧ ∀ k, k < i → spP c k = 0) (fun i => c.sp.length - i) (fun i => [(81, .int .i64 i)]) (fun _ => [some (.cells [.lst Es c.inks, .lst Ei c.pr, .lst Ei c.li, .int .i64 c.ga, .int .i64 c.gb, .int .i64 c.gc, .lst Ei c.gv, .int .i64 c.ra, .int .i64 c.rb, .int .i64 c.rc, .lst Ei c.rv, .lst Es6iL2iJLiJ c.sp, .int .i64 c.tot])])
    ⟨0, ⟨by omega, fun k hk => by omega⟩, TWk.fcanon env [some 0] (by rfl) ?_⟩ (fun i hi => ?_)
  · repeat' (first
      | with_reducible first | exact Conj.nil | refine Conj.cons rfl ?_ | refine Conj.same ?_ | refine Conj.ask ?_ ?_
      | ((with_reducible refine Due.mk ?_); (first | with_reducible rfl | omega | assumption | decide | ((try simp only [goS] at *) <;> (try intro h) <;> (try intro h') <;> (try simp only [goS] at *) <;> (try simp only [rdi, rd2i, Int.toNat_natCast, Nat.add_zero] at *) <;> (try simp only [rng]) <;> (first | assumption | omega)) | (exact due_app0 (by omega)) | (exact due_app (by omega)) | (intros; simp; done) | (intros; simp; omega)))
      | with_reducible refine Due.mk ?_
      | omega)
  obtain ⟨hi, hp⟩ := hi
  have pre : ∀ x, fstE (spP c) c.sp.length = x → x ≠ 0 → x = cndE c := fun x e hx => by rw [cndE, if_neg h1, if_neg h2, if_neg h3, if_neg h4, if_neg h5, if_neg h6, if_neg h7, if_neg h8, if_neg h9, e, if_pos hx]
  rcases Nat.lt_or_ge i c.sp.length with hi2 | hi2
  · by_cases hn : (c.sp.getD i dS).2.2.2.2.2.2.2.2.length ≠ 4 ∨ c.pr.length ≠ 4
    · have e : spP c i = 4 := by unfold spP; rw [if_pos hn]
      have e2 := pre 4 (by rw [fstE_at hp (by rw [e]; omega) hi2, e]) (by omega)
      have hn2 : (c.sp.getD i (R.d Es6iL2iJLiJ)).2.2.2.2.2.2.2.2.length ≠ 4 ∨ c.pr.length ≠ 4 := hn
      repeat' (first
        | refine GZp_i_2i ?_ ?_ ?_ ?_ ?_ ?_ ?_ ?_
        | with_reducible first | exact BzZq.mk | refine Tw.ret ?_ | refine ImZq.i fun h => ?_ | refine IkZq.i fun hk => ?_)
      all_goals exact ⟨rfl, by rw [← e2], rfl⟩
    · have hn2 : ¬ ((c.sp.getD i (R.d Es6iL2iJLiJ)).2.2.2.2.2.2.2.2.length ≠ 4 ∨ c.pr.length ≠ 4) := hn
      repeat' (first
        | refine GZp_i_2i ?_ ?_ ?_ ?_ ?_ ?_ ?_ ?_
        | with_reducible first | exact BzZq.mk | refine Tw.ret ?_ | refine ImZq.i fun h => ?_ | refine IkZq.i fun hk => ?_)
      refine ⟨i + 1, ⟨by omega, fun k hk => ?_⟩, by omega, TWk.fcanon env [some 0] (by rfl) ?_⟩
      · by_cases e : k = i
        · subst e; unfold spP; rw [if_neg hn]
        · exact hp k (by omega)
      · repeat' (first
          | refine GZ_i_2i ?_ ?_ ?_ ?_ ?_ ?_ ?_ ?_
          | with_reducible first | exact BzZq.mk | refine Tw.ret ?_ | refine ImZq.i fun h => ?_ | refine IkZq.i fun hk => ?_)
  · obtain rfl : i = c.sp.length := by omega
    have h10 : fstE (spP c) c.sp.length = 0 := fstE_zero.2 hp
    have fin : cndE c = if c.tot < 0 ∨ 2040 < c.tot then 3 else 0 := by rw [cndE, if_neg h1, if_neg h2, if_neg h3, if_neg h4, if_neg h5, if_neg h6, if_neg h7, if_neg h8, if_neg h9, if_neg (by simpa using h10)]
    by_cases h11 : c.tot < 0 ∨ 2040 < c.tot
    · rw [if_pos h11] at fin
      repeat' (first
        | refine GZp_i_2i ?_ ?_ ?_ ?_ ?_ ?_ ?_ ?_
        | with_reducible first | exact BzZq.mk | refine Tw.ret ?_ | refine ImZq.i fun h => ?_ | refine IkZq.i fun hk => ?_)
      all_goals exact ⟨rfl, by rw [fin], rfl⟩
    · rw [if_neg h11] at fin
      repeat' (first
        | refine GZp_i_2i ?_ ?_ ?_ ?_ ?_ ?_ ?_ ?_
        | with_reducible first | exact BzZq.mk | refine Tw.ret ?_ | refine ImZq.i fun h => ?_ | refine IkZq.i fun hk => ?_)
      all_goals exact ⟨rfl, by rw [fin], rfl⟩
end Go.Proofs.Ytogbkhopanaoiaa
