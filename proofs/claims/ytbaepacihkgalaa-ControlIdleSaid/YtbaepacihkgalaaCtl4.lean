/- Controllers: the state of a press that is controlled, sheet by sheet. -/
import Derived.Test.YtbaepacihkgalaaPrsR
import Derived.Test.YtbaepacihkgalaaGo
import Derived.Test.YtbaepacihkgalaaCtl3
namespace Go.Proofs.Ytbaepacihkgalaa
open Go Go.Lite
set_option linter.unusedVariables false
set_option linter.unusedSimpArgs false
set_option maxRecDepth 100000
set_option maxHeartbeats 4000000
-- @simp rdi rd6i rdLiJ

def dRec : SRec := (0, 0, [], [], 0)
end Go.Proofs.Ytbaepacihkgalaa
namespace Go.Proofs.Ytbaepacihkgalaa
open Go Go.Lite
set_option linter.unusedVariables false
set_option linter.unusedSimpArgs false
set_option maxRecDepth 100000
set_option maxHeartbeats 4000000
-- @simp rdi rd6i rdLiJ

theorem runC_c (Z mr rg tol n : Int) (tg : List Int) (ks ld : List (List Int)) (l : List Ev) (h0 : Due (tg.length ≤ 9223372036854775807)) (hk : Due (ks.length ≤ 9223372036854775807)) (hl : Due (ld.length ≤ 9223372036854775807)) (hkr : ∀ i, i < ks.length → (ks.getD i []).length ≤ 9223372036854775807) (hlr : ∀ i, i < ld.length → (ld.getD i []).length ≤ 9223372036854775807) (hc : chkE Z mr rg tol tg ks ld ≠ 0) :
    TC R Try.prog press_Run_f [.agg [.int .i64 Z, .int .i64 mr, .int .i64 rg, .int .i64 tol, .lst Ei tg, .lst ELiJ ks, .lst ELiJ ld], .lst E6i l, .int .i64 n] [] (fun v X => v = .tup [.nils, .int .i64 (chkE Z mr rg tol tg ks ld)] ∧ X = []) := by
  have nc := newBad_c Z mr rg tol tg ks ld h0 hk hl hkr hlr hc
  generalize chkE Z mr rg tol tg ks ld = q at *
  refine tc0 env press_Run_s (by rfl) ?_
  dsimp only [press_Run_c]
  repeat' (first
    | ((with_reducible refine TOps.any ?_); refine TOps.callV env (by rfl) (by rfl) (by rfl) (nc) ?_)
    | refine GZp_i_6i_LiJ ?_ ?_ ?_ ?_ ?_ ?_ ?_ ?_
    | with_reducible first | exact BzZq.mk | refine Tw.ret ?_ | refine ImZq.i fun h => ?_ | refine IkZq.i fun hk => ?_)
  exact ⟨rfl, rfl, rfl⟩
def runS_c_P (n8 : Nat) : Prop := ∀ (S : Su) (u : Nat) (l : List Ev) (n : Int) (so : SuOk S u) (hc : chkE S.Z S.mr S.rg S.tol S.tg S.ks S.ld = 0) (hs : scE l u S.Z ≠ 0) (hl : Due (l.length ≤ 9223372036854775807)) (e8 : u = n8), TC R Try.prog press_Run_f [.agg [.int .i64 S.Z, .int .i64 S.mr, .int .i64 S.rg, .int .i64 S.tol, .lst Ei S.tg, .lst ELiJ S.ks, .lst ELiJ S.ld], .lst E6i l, .int .i64 n] [] (fun v X => v = .tup [.nils, .int .i64 (scE l u S.Z)] ∧ X = [])
theorem runS_c_A {n8 : Nat} (h8 : runS_c_P n8 := by
    intro S u l n so hc hs hl e8
    have tl := so.tl
    have hu := so.un
    have nc := new_c S u so hc
    have sh := prB_sh (b := 1) (S := S) (u := u) (p := newP S)
    have sc := script_c l S.tg.length S.Z hl
    rw [tl] at sc
    refine tc0 env press_Run_s (by rfl) ?_
    dsimp only [press_Run_c]
    generalize scE l u S.Z = q at *
    rw [← tl] at sc
    subst e8
    simp only [prB, prD, unsB, unC, unR, List.cons_append, List.nil_append, Nat.reduceAdd, Nat.reduceMul] at sh
    repeat' (first
      | ((with_reducible refine TOps.any ?_); refine callS env _ (nc) (sh) (by rfl) (by rfl) (by rfl) (by rfl) (by rfl) ?_)
      | ((with_reducible refine TOps.any ?_); refine TOps.callV env (by rfl) (by rfl) (by rfl) (sc) ?_)
      | refine GZp_i_6i_LiJ ?_ ?_ ?_ ?_ ?_ ?_ ?_ ?_
      | with_reducible first | exact BzZq.mk | refine Tw.ret ?_ | refine ImZq.i fun h => ?_ | refine IkZq.i fun hk => ?_)
    exact ⟨rfl, rfl, rfl⟩) : runS_c_P n8 := h8
theorem runS_c_1 : runS_c_P 1 := runS_c_A
theorem runS_c_2 : runS_c_P 2 := runS_c_A
theorem runS_c_3 : runS_c_P 3 := runS_c_A
theorem runS_c_4 : runS_c_P 4 := runS_c_A
theorem runS_c_5 : runS_c_P 5 := runS_c_A
theorem runS_c_6 : runS_c_P 6 := runS_c_A
theorem runS_c_7 : runS_c_P 7 := runS_c_A
theorem runS_c_8 : runS_c_P 8 := runS_c_A
theorem runS_c (S : Su) (u : Nat) (l : List Ev) (n : Int) (so : SuOk S u) (hc : chkE S.Z S.mr S.rg S.tol S.tg S.ks S.ld = 0) (hs : scE l u S.Z ≠ 0) (hl : Due (l.length ≤ 9223372036854775807)) : TC R Try.prog press_Run_f [.agg [.int .i64 S.Z, .int .i64 S.mr, .int .i64 S.rg, .int .i64 S.tol, .lst Ei S.tg, .lst ELiJ S.ks, .lst ELiJ S.ld], .lst E6i l, .int .i64 n] [] (fun v X => v = .tup [.nils, .int .i64 (scE l u S.Z)] ∧ X = []) := by
  rcases eight (u := u) (so.un) with e8 | e8 | e8 | e8 | e8 | e8 | e8 | e8
  · exact runS_c_1 S u l n so hc hs hl e8
  · exact runS_c_2 S u l n so hc hs hl e8
  · exact runS_c_3 S u l n so hc hs hl e8
  · exact runS_c_4 S u l n so hc hs hl e8
  · exact runS_c_5 S u l n so hc hs hl e8
  · exact runS_c_6 S u l n so hc hs hl e8
  · exact runS_c_7 S u l n so hc hs hl e8
  · exact runS_c_8 S u l n so hc hs hl e8
end Go.Proofs.Ytbaepacihkgalaa
namespace Go.Proofs.Ytbaepacihkgalaa
open Go Go.Lite
set_option linter.unusedVariables false
set_option linter.unusedSimpArgs false
set_option maxRecDepth 100000
set_option maxHeartbeats 4000000

theorem flL_at {S : Su} {us : Nat → Un} : ∀ {n j i : Nat}, i < n → (flL S us n j).getD i [] = (dnU S us (j + i)).fl
  | 0, _, _, h => by omega
  | n + 1, j, 0, h => rfl
  | n + 1, j, i + 1, h => by
    rw [flL, List.getD_cons_succ, flL_at (by omega)]
    congr 1
    rw [show j + 1 + i = j + (i + 1) by omega]
/-- What holds of a sheet that is fed. -/
structure RecOk (S : Su) (u : Nat) (k : Nat) (r : SRec) : Prop where
  n : r.1 = (k : Int) + 1
  st : r.2.1 = 0 ∨ r.2.1 = 1 ∨ r.2.1 = 2
  dry : (k : Int) + 51 ≤ r.2.2.2.2
  sl : r.2.2.1.length = u
  fl : r.2.2.2.1.length = u
  fz : ∀ i, i < u → (r.2.2.2.1.getD i []).length = S.Z ∧ ∀ z, z < S.Z → 0 ≤ (r.2.2.2.1.getD i []).getD z 0 ∧ (r.2.2.2.1.getD i []).getD z 0 ≤ 24000
  gd : r.2.1 = 0 → S.mr < r.1 ∧ ∀ i, i < u → (-S.rg ≤ (r.2.2.1.getD i (0, 0)).1 ∧ (r.2.2.1.getD i (0, 0)).1 ≤ S.rg ∧ -S.rg ≤ (r.2.2.1.getD i (0, 0)).2 ∧ (r.2.2.1.getD i (0, 0)).2 ≤ S.rg) ∧ ∀ z, z < S.Z → -S.tol ≤ (r.2.2.2.1.getD i []).getD z 0 - S.tg.getD i 0 ∧ (r.2.2.2.1.getD i []).getD z 0 - S.tg.getD i 0 ≤ S.tol
theorem rec_ok {S : Su} {u k : Nat} {p : Ps} (so : SuOk S u) (ok : PsOk S u p) (hk : p.n = k) : RecOk S u k (recO S u p) := by
  have sk := smK_in (p := p) so ok.un u (Nat.le_refl u)
  have mx := mxL_in (l := smK S p.us u) (B := 200000) (by omega) (fun i hi => by have := sk.2 i (by omega); have := so.un; omega) S.Z (by omega)
  have q := (quo_bd (a := mxL (smK S p.us u) S.Z) (b := 500) (by omega)).1 mx.1
  have os := ok.s
  refine ⟨by show p.n + 1 = _; omega, ?_, by show _ ≤ fedD S u p; unfold fedD; omega, tab_len, flL_len, fun i hi => ?_, fun h => ?_⟩
  · show fedS S u p = 0 ∨ fedS S u p = 1 ∨ fedS S u p = 2
    unfold fedS
    split
    · omega
    · split <;> omega
  · show ((flL S p.us u 0).getD i []).length = S.Z ∧ _
    have e : (flL S p.us u 0).getD i [] = (dnU S p.us i).fl := by rw [flL_at hi, Nat.zero_add]
    have d : UOk S.Z (dnU S p.us i) := nk_ok (mv_ok (ok.un i hi)) (so.l i hi).2 S.Z (Nat.le_refl _)
    refine ⟨by rw [e]; exact d.fl, fun z hz => ?_⟩
    show 0 ≤ ((flL S p.us u 0).getD i []).getD z 0 ∧ ((flL S p.us u 0).getD i []).getD z 0 ≤ 24000
    rw [e]
    exact d.f z hz
  · have h : fedS S u p = 0 := h
    unfold fedS at h
    split at h
    · omega
    split at h
    · rename_i g
      obtain ⟨g1, g2⟩ := g
      refine ⟨by show S.mr < p.n + 1; have : S.mr < p.s + 1 := g1; omega, fun i hi => ?_⟩
      have gi := g2 i hi
      have ef : fe0 S p.us u i = dnU S p.us i := by unfold fe0; rw [if_pos hi]
      have es : (shK S p.us u).getD i (0, 0) = ((dnU S p.us i).x, (dnU S p.us i).y) := tab_get hi
      have e : (flL S p.us u 0).getD i [] = (dnU S p.us i).fl := by rw [flL_at hi, Nat.zero_add]
      have r1 : regQ S (fe0 S p.us u i) := gi.1
      have r2 : ∀ z, z < S.Z → tolQ S (fe0 S p.us u i) (S.tg.getD i 0) z := gi.2
      rw [ef] at r1 r2
      constructor
      · show -S.rg ≤ ((shK S p.us u).getD i (0, 0)).1 ∧ ((shK S p.us u).getD i (0, 0)).1 ≤ S.rg ∧ -S.rg ≤ ((shK S p.us u).getD i (0, 0)).2 ∧ ((shK S p.us u).getD i (0, 0)).2 ≤ S.rg
        rw [es]; exact r1
      · intro z hz
        show -S.tol ≤ ((flL S p.us u 0).getD i []).getD z 0 - S.tg.getD i 0 ∧ ((flL S p.us u 0).getD i []).getD z 0 - S.tg.getD i 0 ≤ S.tol
        rw [e]; exact r2 z hz
    · omega
theorem run_ok {S : Su} {u : Nat} {l : List Ev} (so : SuOk S u) (hl : ∀ v ∈ l, evE v u S.Z = 0) {n k : Nat} (hk : k < n) (hn : n ≤ 4000) : RecOk S u k ((runL S u l n).getD k dRec) := by
  rw [runL, tab_get hk]
  have h := runP_ok so hl k (by omega)
  have h2 := runE_ok so (k := (k : Int) + 1) h.1 (by rw [h.2.1]) h.2.2
  exact rec_ok so h2.1 (by show (runE S.Z (k + 1) (runP S u l k).2 (runP S u l k).1).1.n = k; omega)
end Go.Proofs.Ytbaepacihkgalaa
namespace Go.Proofs.Ytbaepacihkgalaa
open Go Go.Lite
set_option linter.unusedVariables false
set_option linter.unusedSimpArgs false
set_option maxRecDepth 100000
set_option maxHeartbeats 4000000

def tkE (k : Int) : List Ev → List Ev × List Ev
  | [] => ([], [])
  | v :: l => if v.1 = k then (v :: (tkE k l).1, (tkE k l).2) else ([], v :: l)
structure Lp where
  p : Ps
  c : Ct
  own : List Ev
  rest : List Ev
/-- The press that prints sheet k + 1. -/
def lpB (S : Su) (k : Nat) (s : Lp) : Ps := (s.own ++ (tkE ((k : Int) + 1) s.rest).1).foldl (evP S.Z) s.p
def lpC (S : Su) (u : Nat) (c : Ct) (q : Ps) : Ct := { c with n := c.n + 1, ks := keK S c (flL S q.us u 0) u }
def lpS (S : Su) (u k : Nat) (s : Lp) : Lp := { p := fedP S u (lpB S k s), c := lpC S u s.c (lpB S k s), own := feE S s.c (shK S (lpB S k s).us u) (flL S (lpB S k s).us u 0) u, rest := (tkE ((k : Int) + 1) s.rest).2 }
def lp (S : Su) (u : Nat) (c : Ct) (l : List Ev) : Nat → Lp
  | 0 => { p := newP S, c := c, own := [], rest := l }
  | k + 1 => lpS S u k (lp S u c l k)
def lpL (S : Su) (u : Nat) (c : Ct) (l : List Ev) (n : Nat) : List SRec := tab n fun k => recO S u (lpB S k (lp S u c l k))
/-- What holds ahead of sheet k + 1. -/
structure LpOk (S : Su) (u k : Nat) (s : Lp) : Prop where
  p : PsOk S u s.p
  pn : s.p.n = k
  c : CtOk S u s.c
  cn : s.c.n = k
  o : ∀ v ∈ s.own, evE v u S.Z = 0 ∧ v.1 = (k : Int) + 1
  r : ∀ v ∈ s.rest, evE v u S.Z = 0
theorem tkE_ok {k : Int} : ∀ {l : List Ev}, (∀ v ∈ (tkE k l).1, v.1 = k ∧ v ∈ l) ∧ ∀ v ∈ (tkE k l).2, v ∈ l
  | [] => ⟨(fun v h => nomatch h), (fun v h => nomatch h)⟩
  | w :: l => by
    have ih := tkE_ok (k := k) (l := l)
    rw [tkE]
    split
    · rename_i e
      refine ⟨fun v h => ?_, fun v h => List.mem_cons_of_mem _ (ih.2 v h)⟩
      rcases List.mem_cons.1 h with rfl | h
      · exact ⟨e, List.mem_cons_self ..⟩
      · exact ⟨(ih.1 v h).1, List.mem_cons_of_mem _ (ih.1 v h).2⟩
    · exact ⟨(fun v h => nomatch h), (fun v h => h)⟩
theorem evs_ok {S : Su} {u : Nat} {k : Int} (so : SuOk S u) : ∀ {l : List Ev} {p : Ps}, PsOk S u p → p.n + 1 = k → (∀ v ∈ l, evE v u S.Z = 0 ∧ v.1 = k) → PsOk S u (l.foldl (evP S.Z) p) ∧ (l.foldl (evP S.Z) p).n + 1 = k
  | [], p, ok, hn, _ => ⟨ok, hn⟩
  | (s, kd, un, zn, x, y) :: l, p, ok, hn, hl => by
    obtain ⟨h1, h2⟩ := hl _ (List.mem_cons_self ..)
    have hb : evS (s, kd, un, zn, x, y) p.n u S.Z = 0 := by
      unfold evS
      rw [if_neg (fun h => h h1), if_neg (fun h => h (h2.trans hn.symm))]
    rw [List.foldl_cons]
    exact evs_ok so (evP_ok so ok hb) (by rw [evP_n]; exact hn) (fun v hv => hl v (List.mem_cons_of_mem _ hv))
theorem lpB_ok {S : Su} {u k : Nat} {s : Lp} (so : SuOk S u) (ok : LpOk S u k s) : PsOk S u (lpB S k s) ∧ (lpB S k s).n = k := by
  have h := evs_ok so (k := (k : Int) + 1) (l := s.own ++ (tkE ((k : Int) + 1) s.rest).1) ok.p (by rw [ok.pn]) (fun v hv => by
    rcases List.mem_append.1 hv with hv | hv
    · exact ok.o v hv
    · have := tkE_ok.1 v hv
      exact ⟨ok.r v this.2, this.1⟩)
  exact ⟨h.1, by have := h.2; unfold lpB; omega⟩
theorem rc_ok {S : Su} {u : Nat} {q : Ps} (so : SuOk S u) (ok : PsOk S u q) : RcOk S u (shK S q.us u) (flL S q.us u 0) := by
  have d : ∀ i, i < u → UOk S.Z (dnU S q.us i) := fun i hi => nk_ok (mv_ok (ok.un i hi)) (so.l i hi).2 S.Z (Nat.le_refl _)
  refine ⟨tab_len, flL_len, fun i hi => ?_, fun i hi => ?_⟩
  · have e : (shK S q.us u).getD i (0, 0) = ((dnU S q.us i).x, (dnU S q.us i).y) := tab_get hi
    rw [e]
    have := (d i hi).x
    have := (d i hi).y
    dsimp only
    omega
  · have e : (flL S q.us u 0).getD i [] = (dnU S q.us i).fl := by rw [flL_at hi, Nat.zero_add]
    rw [e]
    exact ⟨(d i hi).fl, (d i hi).f⟩
theorem fzE_mem {S : Su} {ks : Nat → List Int} {fm : List (List Int)} {n : Int} {i : Nat} {v : Ev} : ∀ z, v ∈ fzE S ks fm n i z → ∃ y, y < z ∧ v = (n + 1 + 1, 1, (i : Int), (y : Int), kyN S ks fm i y, 0)
  | 0, h => nomatch h
  | z + 1, h => by
    unfold fzE at h
    split at h
    · obtain ⟨y, hy, e⟩ := fzE_mem z h
      exact ⟨y, by omega, e⟩
    · rcases List.mem_append.1 h with h | h
      · obtain ⟨y, hy, e⟩ := fzE_mem z h
        exact ⟨y, by omega, e⟩
      · exact ⟨z, by omega, List.mem_singleton.1 h⟩
theorem feE_ok {S : Su} {u : Nat} {c : Ct} {sh : List (Int × Int)} {fm : List (List Int)} (hn : 0 ≤ c.n ∧ c.n < 3999) (ok : RcOk S u sh fm) {v : Ev} : ∀ i, i ≤ u → v ∈ feE S c sh fm i → evE v u S.Z = 0 ∧ v.1 = c.n + 1 + 1
  | 0, _, h => nomatch h
  | i + 1, hi, h => by
    rw [feE] at h
    rcases List.mem_append.1 h with h | h
    · rcases List.mem_append.1 h with h | h
      · exact feE_ok hn ok i (by omega) h
      · unfold kyE at h
        split at h
        · obtain ⟨y, hy, rfl⟩ := fzE_mem _ h
          have := kyN_in (S := S) (ks := c.ks) (fm := fm) (i := i) (z := y)
          refine ⟨?_, rfl⟩
          unfold evE
          rw [if_neg (by dsimp only; omega), if_neg (Decidable.not_not.2 (by dsimp only; unfold frmK; omega)), if_neg (Decidable.not_not.2 (by dsimp only; unfold inK; simp [lowK, topK]; omega))]
        · exact nomatch h
    · unfold jmE at h
      split at h
      · rw [List.mem_singleton.1 h]
        have := ok.s i (by omega)
        generalize (sh.getD i (0, 0)).1 = a1 at *
        generalize (sh.getD i (0, 0)).2 = a2 at *
        refine ⟨?_, rfl⟩
        unfold evE
        rw [if_neg (by dsimp only; omega), if_neg (Decidable.not_not.2 (by dsimp only; unfold frmK; omega)), if_neg (Decidable.not_not.2 (by dsimp only; unfold inK; simp [lowK, topK]; omega))]
      · exact nomatch h
theorem kzL_in {S : Su} {ks : Nat → List Int} {fm : List (List Int)} {i Z : Nat} (h : ∀ z, z < Z → 0 ≤ (ks i).getD z 0 ∧ (ks i).getD z 0 ≤ 1000) (hl : (ks i).length = Z) : ∀ n, ∀ z, z < Z → 0 ≤ (kzL S ks fm i n).getD z 0 ∧ (kzL S ks fm i n).getD z 0 ≤ 1000
  | 0, z, hz => h z hz
  | n + 1, z, hz => by
    have ih := kzL_in (S := S) (fm := fm) h hl n z hz
    rw [kzL]
    by_cases e : z = n
    · subst e
      rw [getD_set_eq (by rw [kzL_len]; omega)]
      exact kyN_in
    · rw [getD_set_ne (by omega)]; exact ih
theorem lpC_ok {S : Su} {u : Nat} {c : Ct} {q : Ps} (ok : CtOk S u c) (hn : c.n < 3999) : CtOk S u (lpC S u c q) := by
  have on := ok.n
  refine ⟨ok.ci, ok.cr, by show 0 ≤ c.n + 1 ∧ c.n + 1 ≤ 4000; omega, fun i hi => ?_, fun i hi => ?_⟩
  · show (keK S c _ u i).length = S.Z
    unfold keK kdn
    rw [if_pos hi]
    split
    · rw [kzL_len]; exact ok.kl i hi
    · exact ok.kl i hi
  · show ∀ z, z < S.Z → 0 ≤ (keK S c _ u i).getD z 0 ∧ (keK S c _ u i).getD z 0 ≤ 1000
    unfold keK kdn
    rw [if_pos hi]
    split
    · exact kzL_in (ok.k i hi) (ok.kl i hi) _
    · exact ok.k i hi
theorem lpS_ok {S : Su} {u k : Nat} {s : Lp} (so : SuOk S u) (ok : LpOk S u k s) (hk : k < 3999) : LpOk S u (k + 1) (lpS S u k s) := by
  obtain ⟨h1, h2⟩ := lpB_ok so ok
  have cn := ok.cn
  refine ⟨fedP_ok so h1 (by omega), ?_, lpC_ok ok.c (by omega), ?_, fun v hv => ?_, fun v hv => ok.r v (tkE_ok.2 v hv)⟩
  · show (lpB S k s).n + 1 = ((k + 1 : Nat) : Int); omega
  · show s.c.n + 1 = ((k + 1 : Nat) : Int); omega
  · have := feE_ok (by omega) (rc_ok so h1) u (Nat.le_refl u) hv
    exact ⟨this.1, by rw [this.2]; omega⟩
theorem newCt_ok {S : Su} {u : Nat} {ci cr : Int} (so : SuOk S u) (h : ctlE ci cr = 0) : CtOk S u (newCt S ci cr) := by
  unfold ctlE at h
  split at h
  · contradiction
  rename_i h'
  exact ⟨by show 1 ≤ ci ∧ ci ≤ 4000; omega, by show 1 ≤ cr ∧ cr ≤ 4000; omega, by show (0 : Int) ≤ 0 ∧ (0 : Int) ≤ 4000; omega, fun i hi => (so.k i hi).1, fun i hi => (so.k i hi).2⟩
theorem lp_ok {S : Su} {u : Nat} {c : Ct} {l : List Ev} (so : SuOk S u) (hc : CtOk S u c) (h0 : c.n = 0) (hl : ∀ v ∈ l, evE v u S.Z = 0) : ∀ k, k ≤ 3999 → LpOk S u k (lp S u c l k)
  | 0, _ => ⟨newP_ok so, rfl, hc, h0, (fun v h => nomatch h), hl⟩
  | k + 1, h => lpS_ok so (lp_ok so hc h0 hl k (by omega)) (by omega)
/-- The controller's rows behind others. -/
def ksB (Z b : Nat) : Nat → Nat → List (TV A)
  | 0, _ => []
  | k + 1, i => .sla 1 (b + (2 + i)) 0 Z :: ksB Z b k (i + 1)
def ctD (b : Nat) (S : Su) (u : Nat) (c : Ct) : List (TV A) := [.int .i64 S.Z, .int .i64 (0 : Int), .int .i64 (0 : Int), .int .i64 (0 : Int), .lst Ei S.tg, .nils, .lst ELiJ S.ld, .int .i64 c.ci, .int .i64 c.cr, .sl 1 (b + 1) 0 u, .int .i64 c.n]
def ctB (b : Nat) (S : Su) (u : Nat) (c : Ct) : List (Option (TRow A)) := some (.cells (ctD b S u c)) :: some (.cells (ksB S.Z b u 0)) :: ksR c.ks u 0
theorem ksB_sh {Z b : Nat} : ∀ k i, trenL (fun j => b + j) (ksC Z k i) = ksB Z b k i
  | 0, _ => rfl
  | k + 1, i => by
    show _ :: trenL _ (ksC Z k (i + 1)) = _
    rw [ksB_sh k (i + 1)]; rfl
theorem ksR_sh {g : Nat → Nat} {ks : Nat → List Int} : ∀ k i, trenH g (ksR ks k i) = ksR ks k i
  | 0, _ => rfl
  | k + 1, i => by
    show _ :: trenH g (ksR ks k (i + 1)) = _
    rw [ksR_sh k (i + 1)]; rfl
theorem ctB_sh {b : Nat} {S : Su} {u : Nat} {c : Ct} : trenH (fun j => b + j) (ctR S u c) = ctB b S u c := by
  show some (.cells (trenL _ (ctC S u c))) :: some (.cells (trenL _ (ksC S.Z u 0))) :: trenH _ (ksR c.ks u 0) = _
  rw [ksB_sh, ksR_sh]
  rfl
end Go.Proofs.Ytbaepacihkgalaa
