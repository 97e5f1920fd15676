/- Presses: a run. -/
import Derived.Test.YtbaepacihkgalaaPrsQ
import Derived.Test.YtbaepacihkgalaaGo
namespace Go.Proofs.Ytbaepacihkgalaa
open Go Go.Lite
set_option linter.unusedVariables false
set_option linter.unusedSimpArgs false
set_option maxRecDepth 100000
set_option maxHeartbeats 4000000
-- @simp rdi rd6i rdLiJ

/-- The events of sheet k are taken from the script. -/
def runE (Z : Nat) (k : Int) : List Ev → Ps → Ps × List Ev
  | [], p => (p, [])
  | v :: l, p => if v.1 = k then runE Z k l (evP Z p v) else (p, v :: l)
/-- A press and the rest of the script behind sheet k. -/
def runP (S : Su) (u : Nat) (l : List Ev) : Nat → Ps × List Ev
  | 0 => (newP S, l)
  | k + 1 => (fedP S u (runE S.Z (k + 1) (runP S u l k).2 (runP S u l k).1).1, (runE S.Z (k + 1) (runP S u l k).2 (runP S u l k).1).2)
/-- The press that prints sheet k + 1. -/
def runB (S : Su) (u : Nat) (l : List Ev) (k : Nat) : Ps := (runE S.Z (k + 1) (runP S u l k).2 (runP S u l k).1).1
abbrev SRec := Int × Int × List (Int × Int) × List (List Int) × Int
def recO (S : Su) (u : Nat) (p : Ps) : SRec := (p.n + 1, fedS S u p, shK S p.us u, flL S p.us u 0, fedD S u p)
def runL (S : Su) (u : Nat) (l : List Ev) (n : Nat) : List SRec := tab n fun k => recO S u (runB S u l k)
theorem evP_n {Z : Nat} {p : Ps} {v : Ev} : (evP Z p v).n = p.n := by unfold evP; split <;> (try split) <;> rfl
theorem runE_ok {S : Su} {u : Nat} (so : SuOk S u) {k : Int} : ∀ {l : List Ev} {p : Ps}, PsOk S u p → p.n + 1 = k → (∀ v ∈ l, evE v u S.Z = 0) → PsOk S u (runE S.Z k l p).1 ∧ (runE S.Z k l p).1.n + 1 = k ∧ ∀ v ∈ (runE S.Z k l p).2, evE v u S.Z = 0
  | [], p, ok, hn, hl => ⟨ok, hn, hl⟩
  | (s, kd, un, zn, x, y) :: l, p, ok, hn, hl => by
    have h1 := hl _ (List.mem_cons_self ..)
    unfold runE
    split
    · rename_i e
      have hb : evS (s, kd, un, zn, x, y) p.n u S.Z = 0 := by
        unfold evS
        rw [if_neg (fun h => h h1), if_neg (fun h => h (e.trans hn.symm))]
      have en : (evP S.Z p (s, kd, un, zn, x, y)).n = p.n := by unfold evP; split <;> (try split) <;> rfl
      exact runE_ok so (evP_ok so ok hb) (by rw [en]; exact hn) (fun v hv => hl v (List.mem_cons_of_mem _ hv))
    · exact ⟨ok, hn, hl⟩
theorem runP_ok {S : Su} {u : Nat} (so : SuOk S u) {l : List Ev} (hl : ∀ v ∈ l, evE v u S.Z = 0) : ∀ k, k ≤ 4000 → PsOk S u (runP S u l k).1 ∧ (runP S u l k).1.n = k ∧ ∀ v ∈ (runP S u l k).2, evE v u S.Z = 0
  | 0, _ => ⟨newP_ok so, rfl, hl⟩
  | k + 1, h => by
    have ih := runP_ok so hl k (by omega)
    have := runE_ok so (k := (k : Int) + 1) ih.1 (by rw [ih.2.1]) ih.2.2
    have hn : (runE S.Z (k + 1) (runP S u l k).2 (runP S u l k).1).1.n = k := by omega
    exact ⟨fedP_ok so this.1 (by omega), by show (runE S.Z (k + 1) (runP S u l k).2 (runP S u l k).1).1.n + 1 = ((k + 1 : Nat) : Int); rw [hn]; omega, this.2.2⟩
theorem scE_all {l : List Ev} {u Z : Int} (h : scE l u Z = 0) (hl : l.length ≤ 200) : ∀ v ∈ l, evE v u Z = 0 := by
  unfold scE at h
  rw [if_neg (by omega)] at h
  intro v hv
  obtain ⟨i, hi, rfl⟩ := List.getElem_of_mem hv
  have := fstE_zero.1 h i hi
  unfold scI at this
  have e : l.getD i dEv = l[i] := by rw [List.getD_eq_getElem?_getD, List.getElem?_eq_getElem hi]; rfl
  rw [e] at this
  split at this
  · contradiction
  · rename_i h'
    exact Decidable.not_not.1 h'
theorem runE_stop {Z : Nat} {k : Int} {r : List Ev} {p : Ps} (h : ¬ (0 < r.length ∧ (r.getD 0 (0, 0, 0, 0, 0, 0)).1 = k)) : runE Z k r p = (p, r) := by
  cases r with
  | nil => rfl
  | cons v r =>
    have h' : ¬ v.1 = k := fun e => h ⟨by simp, e⟩
    rw [runE, if_neg h']
theorem runP_next {S : Su} {u : Nat} {l : List Ev} {k : Nat} {p : Ps} {r : List Ev} (h : runE S.Z (k + 1) r p = runE S.Z (k + 1) (runP S u l k).2 (runP S u l k).1) (hx : ¬ (0 < r.length ∧ (r.getD 0 (0, 0, 0, 0, 0, 0)).1 = (k : Int) + 1)) :
    runP S u l (k + 1) = (fedP S u p, r) ∧ runL S u l (k + 1) = runL S u l k ++ [recO S u p] := by
  rw [runE_stop hx] at h
  refine ⟨by rw [runP, ← h], ?_⟩
  rw [runL, tab_succ]
  have : runB S u l k = p := by rw [runB, ← h]
  rw [this]; rfl
def run_c_P (n8 : Nat) : Prop := ∀ (S : Su) (u : Nat) (l : List Ev) (n : Nat) (so : SuOk S u) (hc : chkE S.Z S.mr S.rg S.tol S.tg S.ks S.ld = 0) (hs : scE l u S.Z = 0) (hl : l.length ≤ 200) (hn : Due (n ≤ 4000)) (e8 : u = n8), TC R Try.prog press_Run_f [.agg [.int .i64 S.Z, .int .i64 S.mr, .int .i64 S.rg, .int .i64 S.tol, .lst Ei S.tg, .lst ELiJ S.ks, .lst ELiJ S.ld], .lst E6i l, .int .i64 n] [] (fun v X => v = .tup [.lst E2iL2iJLLiJJi (runL S u l n), .int .i64 0] ∧ X = [])
theorem run_c_A {n8 : Nat} (h8 : run_c_P n8 := by
    intro S u l n so hc hs hl hn e8
    dsimp only [Due] at hn
    have tl := so.tl
    have hu := so.un
    have nc := new_c S u so hc
    have sh := prB_sh (b := 1) (S := S) (u := u) (p := newP S)
    have sc := script_c l S.tg.length S.Z (by dsimp only [Due]; omega)
    have e0 : scE l S.tg.length S.Z = 0 := by rw [tl]; exact hs
    rw [e0] at sc
    refine tc0 env press_Run_s (by rfl) ?_
    dsimp only [press_Run_c]
    obtain ⟨w, hw⟩ : ∃ w, w = u := ⟨_, rfl⟩
    have pev := fun p ok s k un zn x y => pev_c S u p so ok s k un zn x y
    have fed := fun p ok hn => feed_c S u p so ok hn
    have pok := fun k hk => runP_ok (l := l) so (fun v hv => scE_all hs hl v hv) k hk
    have evok := fun p ok s k un zn x y => evP_ok (p := p) so ok (s := s) (k := k) (un := un) (zn := zn) (x := x) (y := y)
    rw [← hw] at pev fed pok evok
    obtain ⟨hR, eR⟩ : ∃ hR : Nat → Ps × List Ev, hR = runP S u l := ⟨_, rfl⟩
    rw [hw, ← eR, ← hw] at pok
    obtain ⟨hF, ehF⟩ : ∃ hF : Nat → List (Nat × TV A), ∀ k, hF k = [(12, .int .i64 ((k : Int) + 1)), (11, .sla 5 (2 * u + 2) 0 k), (8, .ptr 0 0), (1, .lst E6i (hR k).2)] := ⟨fun k => _, fun k => rfl⟩
    obtain ⟨hp, ehp⟩ : ∃ hp : Nat → List (Option (TRow A)), hp = fun k => prR S u (hR k).1 ++ [some (.arr E2iL2iJLLiJJi (runL S u l k))] := ⟨_, rfl⟩
    obtain ⟨hp2, ehp2⟩ : ∃ hp2 : Nat → Ps → List (Option (TRow A)), hp2 = fun k p => prR S u p ++ [some (.arr E2iL2iJLLiJJi (runL S u l k))] := ⟨_, rfl⟩
    have rl : ∀ k, (runL S u l k).length = k := fun k => tab_len
    subst e8
    simp only [prB, prD, unsB, unC, unR, List.cons_append, List.nil_append, Nat.reduceAdd, Nat.reduceMul] at sh
    repeat' (first
      | ((with_reducible refine TOps.any ?_); refine callS env _ (nc) (sh) (by rfl) (by rfl) (by rfl) (by rfl) (by rfl) ?_)
      | ((with_reducible refine TOps.any ?_); refine TOps.callV env (by rfl) (by rfl) (by rfl) (sc) ?_)
      | refine GZp_i_6i_LiJ ?_ ?_ ?_ ?_ ?_ ?_ ?_ ?_
      | with_reducible first | exact BzZq.mk | refine Tw.ret ?_ | refine ImZq.i fun h => ?_ | refine IkZq.i fun hk => ?_)
    refine Tw.loopK [2] (fun k : Nat => k ≤ n) (fun k => n - k) (fun k => hF k) (fun k => hp k) ⟨0, by omega, ?_⟩ (fun k hk => ?_)
    · rw [ehF, eR]
      refine TWk.hE (by simp only [ehp, eR, runP, prR, prC, unsC, unC, unR, List.cons_append, List.nil_append, Nat.reduceAdd, Nat.reduceMul]; rfl) (TWk.fcanonG env (fun n => (List.range' 1 (n - 1)).map some ++ [none]) (by rfl) ?_)
      repeat' (first
        | exact rfl
        | refine GZ_i_6i_LiJ ?_ ?_ ?_ ?_ ?_ ?_ ?_ ?_
        | with_reducible first | exact BzZq.mk | refine Tw.ret ?_ | refine ImZq.i fun h => ?_ | refine IkZq.i fun hk => ?_)
    rw [ehF]
    refine Tw.hE (by simp only [ehp, prR, prC, unsC, unC, unR, List.cons_append, List.nil_append, Nat.reduceAdd, Nat.reduceMul]; rfl) ?_
    rcases Nat.lt_or_ge k n with hk | hk
    · obtain ⟨pk, nk, vk⟩ := pok k (by omega)
      repeat' (first
        | refine GZp_i_6i_LiJ ?_ ?_ ?_ ?_ ?_ ?_ ?_ ?_
        | with_reducible first | exact BzZq.mk | refine Tw.ret ?_ | refine ImZq.i fun h => ?_ | refine IkZq.i fun hk => ?_)
      refine Tw.loopK [2, 8, 11, 12] (fun q : List Ev × Ps => runE S.Z ((k : Int) + 1) q.1 q.2 = runE S.Z ((k : Int) + 1) (hR k).2 (hR k).1 ∧ PsOk S w q.2 ∧ q.2.n = k ∧ ∀ v ∈ q.1, evE v w S.Z = 0) (fun q => q.1.length) (fun q => [(1, .lst E6i q.1)]) (fun q => hp2 k q.2) ⟨((hR k).2, (hR k).1), ⟨rfl, pk, nk, vk⟩, ?_⟩ (fun q hq => ?_)
      · refine TWk.hE (by simp only [ehp2, prR, prC, unsC, unC, unR, List.cons_append, List.nil_append, Nat.reduceAdd, Nat.reduceMul]; rfl) (TWk.fcanonR env 0 (by rfl) ?_)
        repeat' (first
          | refine GZ_i_6i_LiJ ?_ ?_ ?_ ?_ ?_ ?_ ?_ ?_
          | with_reducible first | exact BzZq.mk | refine Tw.ret ?_ | refine ImZq.i fun h => ?_ | refine IkZq.i fun hk => ?_)
      obtain ⟨r, q⟩ := q
      obtain ⟨h1, h2, h3, h4⟩ := hq
      dsimp only at h1 h2 h3 h4
      refine Tw.hE (by simp only [ehp2, prR, prC, unsC, unC, unR, List.cons_append, List.nil_append, Nat.reduceAdd, Nat.reduceMul]; rfl) ?_
      by_cases hx : 0 < r.length ∧ (r.getD 0 (0, 0, 0, 0, 0, 0)).1 = (k : Int) + 1
      · cases r with
        | nil => exact absurd hx.1 (by simp)
        | cons v r =>
          obtain ⟨s, kd, un, zn, x, y⟩ := v
          have hs : s = (k : Int) + 1 := hx.2
          have g0 : ((s, kd, un, zn, x, y) :: r).getD 0 ((0 : Int), (0 : Int), (0 : Int), (0 : Int), (0 : Int), (0 : Int)) = (s, kd, un, zn, x, y) := rfl
          have lc : ((s, kd, un, zn, x, y) :: r).length = r.length + 1 := rfl
          have hb : evS (s, kd, un, zn, x, y) q.n w S.Z = 0 := by
            unfold evS
            rw [if_neg (fun h => h (h4 _ (List.mem_cons_self ..))), if_neg (fun h => h (by rw [h3]; exact hs))]
          have pv := pev q h2 s kd un zn x y
          rw [hb, if_pos rfl] at pv
          have po := evok q h2 s kd un zn x y hb
          simp only [hw, prR, prC, unsC, unC, unR, List.cons_append, List.nil_append, Nat.reduceAdd, Nat.reduceMul] at pv
          clear pev evok pok fed
          repeat' (first
            | ((with_reducible refine TOps.any ?_); refine callI env _ (pv) (by rfl) (by rfl) (by rfl) (by simp only [List.length_cons, List.length_nil, Nat.reduceAdd]; rfl) (by rfl) (by rfl) (by rfl) (by rfl) (by rfl) ?_)
            | refine GZy_i_6i_LiJ (And.intro g0 lc) ?_ ?_ ?_ ?_ ?_ ?_ ?_ ?_
            | with_reducible first | exact BzZq.mk | refine Tw.ret ?_ | refine ImZq.i fun h => ?_ | refine IkZq.i fun hk => ?_)
          refine ⟨(r, evP S.Z q (s, kd, un, zn, x, y)), ⟨by rw [← h1, runE, if_pos hs], po, by rw [← h3]; exact evP_n, fun v hv => h4 v (List.mem_cons_of_mem _ hv)⟩, by simp, TWk.hE (by simp only [ehp2, prR, prC, unsC, unC, unR, List.cons_append, List.nil_append, Nat.reduceAdd, Nat.reduceMul]; rfl) (TWk.fcanonR env 0 (by rfl) ?_)⟩
          repeat' (first
            | exact rfl
            | refine GZ_i_6i_LiJ ?_ ?_ ?_ ?_ ?_ ?_ ?_ ?_
            | with_reducible first | exact BzZq.mk | refine Tw.ret ?_ | refine ImZq.i fun h => ?_ | refine IkZq.i fun hk => ?_)
      · obtain ⟨e1, e2⟩ := runP_next (u := w) (l := l) (k := k) (by rw [h1, eR, hw]) hx
        have fd := fed q h2 (by omega)
        simp only [hw, prR, prC, unsC, unC, unR, List.cons_append, List.nil_append, Nat.reduceAdd, Nat.reduceMul] at fd
        rw [hw] at e1 e2
        clear pev evok pok fed
        have e3 : runL S w l k ++ [recO S w q] = cut (runL S w l k) 0 k ++ cut [recO S w q] 0 1 := by rw [cut_all (hw ▸ (rl k).symm)]; rfl
        rw [hw] at e3
        repeat' (first
          | ((with_reducible refine TOps.any ?_); refine callI env _ (fd) (by rfl) (by rfl) (by rfl) (by simp only [List.length_cons, List.length_nil, Nat.reduceAdd]; rfl) (by rfl) (by rfl) (by rfl) (by rfl) (by rfl) ?_)
          | refine GZy_i_6i_LiJ rl ?_ ?_ ?_ ?_ ?_ ?_ ?_ ?_
          | with_reducible first | exact BzZq.mk | refine Tw.ret ?_ | refine ImZq.i fun h => ?_ | refine IkZq.i fun hk => ?_)
        refine ⟨k + 1, by omega, by omega, ?_⟩
        rw [ehF, eR, e1]
        refine TWk.hE (by simp only [ehp, eR, e1, e2, prR, prC, unsC, unC, unR, List.cons_append, List.nil_append, Nat.reduceAdd, Nat.reduceMul]; rfl) (TWk.fcanonG env (fun n => (List.range (n - 1)).map some ++ [some (n + 2)]) (by rfl) ?_)
        repeat' (first
          | exact e3
          | exact rfl
          | refine GZ_i_6i_LiJ ?_ ?_ ?_ ?_ ?_ ?_ ?_ ?_
          | with_reducible first | exact BzZq.mk | refine Tw.ret ?_ | refine ImZq.i fun h => ?_ | refine IkZq.i fun hk => ?_)
    · obtain rfl : n = k := by omega
      refine Tw.frzD env 1 (by rfl) (by rfl) (by rfl) ?_ ?_ ?_
      · repeat' (first
          | refine GZx_i_6i_LiJ rl ?_ ?_ ?_ ?_ ?_ ?_ ?_ ?_
          | with_reducible first | exact BzZq.mk | refine Tw.ret ?_ | refine ImZq.i fun h => ?_ | refine IkZq.i fun hk => ?_)
      · repeat' (first
          | refine GZx_i_6i_LiJ rl ?_ ?_ ?_ ?_ ?_ ?_ ?_ ?_
          | with_reducible first | exact BzZq.mk | refine Tw.ret ?_ | refine ImZq.i fun h => ?_ | refine IkZq.i fun hk => ?_)
      rw [cut_all (rl n).symm]
      repeat' (first
        | refine GZp_i_6i_LiJ ?_ ?_ ?_ ?_ ?_ ?_ ?_ ?_
        | with_reducible first | exact BzZq.mk | refine Tw.ret ?_ | refine ImZq.i fun h => ?_ | refine IkZq.i fun hk => ?_)
      exact ⟨rfl, rfl, rfl⟩) : run_c_P n8 := h8
theorem run_c_1 : run_c_P 1 := run_c_A
theorem run_c_2 : run_c_P 2 := run_c_A
theorem run_c_3 : run_c_P 3 := run_c_A
theorem run_c_4 : run_c_P 4 := run_c_A
theorem run_c_5 : run_c_P 5 := run_c_A
theorem run_c_6 : run_c_P 6 := run_c_A
theorem run_c_7 : run_c_P 7 := run_c_A
theorem run_c_8 : run_c_P 8 := run_c_A
theorem run_c (S : Su) (u : Nat) (l : List Ev) (n : Nat) (so : SuOk S u) (hc : chkE S.Z S.mr S.rg S.tol S.tg S.ks S.ld = 0) (hs : scE l u S.Z = 0) (hl : l.length ≤ 200) (hn : Due (n ≤ 4000)) : TC R Try.prog press_Run_f [.agg [.int .i64 S.Z, .int .i64 S.mr, .int .i64 S.rg, .int .i64 S.tol, .lst Ei S.tg, .lst ELiJ S.ks, .lst ELiJ S.ld], .lst E6i l, .int .i64 n] [] (fun v X => v = .tup [.lst E2iL2iJLLiJJi (runL S u l n), .int .i64 0] ∧ X = []) := by
  rcases eight (u := u) (so.un) with e8 | e8 | e8 | e8 | e8 | e8 | e8 | e8
  · exact run_c_1 S u l n so hc hs hl hn e8
  · exact run_c_2 S u l n so hc hs hl hn e8
  · exact run_c_3 S u l n so hc hs hl hn e8
  · exact run_c_4 S u l n so hc hs hl hn e8
  · exact run_c_5 S u l n so hc hs hl hn e8
  · exact run_c_6 S u l n so hc hs hl hn e8
  · exact run_c_7 S u l n so hc hs hl hn e8
  · exact run_c_8 S u l n so hc hs hl hn e8
end Go.Proofs.Ytbaepacihkgalaa
