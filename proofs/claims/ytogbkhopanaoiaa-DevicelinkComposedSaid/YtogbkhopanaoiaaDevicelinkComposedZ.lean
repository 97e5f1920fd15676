/- The law DevicelinkComposed. -/
import Derived.Test.YtogbkhopanaoiaaDvl1
import Derived.Test.YtogbkhopanaoiaaDvlW
import Derived.Test.YtogbkhopanaoiaaXDevicelinkComposed1
import Derived.Test.YtogbkhopanaoiaaGo
namespace Go.Proofs.Ytogbkhopanaoiaa
open Go Go.Lite
set_option linter.unusedVariables false
set_option linter.unusedSimpArgs false
set_option maxRecDepth 100000
set_option maxHeartbeats 4000000
-- @simp rdi rd2i rdy

theorem near_256 {v : Int} {st : Nat} : near v (256 * (st : Int)) = near v ((256 * st : Nat) : Int) := by simp
theorem DevicelinkComposed_law (a b c : Int) (vals xs : List Int) (_ : rng .i64 a) (_ : rng .i64 b) (_ : rng .i64 c) (w1 : vals.length ≤ 9223372036854775807 ∧ ∀ y ∈ vals, Wi y) (w2 : xs.length ≤ 9223372036854775807 ∧ ∀ y ∈ xs, Wi y) :
    TC R Try.prog K2_DevicelinkComposed_f [.agg [.int .i64 a, .int .i64 b, .int .i64 c, .lst Ei vals], .lst Ei xs] [] (fun v X => v = .bool true ∧ X = []) := by
  refine tc0 env K2_DevicelinkComposed_s (by rfl) ?_
  dsimp only [K2_DevicelinkComposed_c]
  by_cases h0 : cvE a b c vals xs = 0
  · have hd : dlE a b c vals = 0 := by
      unfold cvE at h0; split at h0
      · rename_i h; exact absurd h0 h
      · rename_i h; simpa using h
    have ht : tonesE xs a = 0 := by unfold cvE at h0; rw [hd] at h0; simpa using h0
    obtain ⟨inn, out, s, rfl, rfl, rfl, g, hv⟩ := dl_ok hd
    obtain ⟨ys, rfl, hy, yb⟩ := tones_nat ht
    have cv := convert_y inn out s vals ys g hv hd w1.1 ⟨hy, yb⟩
    have gs := g.step
    have gi := g.i1
    have gO := g.o1
    have gsz := g.s1
    have lz : (nz ys).length = inn := by rw [nz_len]; exact hy
    obtain ⟨zs, hzs⟩ : ∃ zs, zs = ys.map (256 * ·) := ⟨_, rfl⟩
    have hzl : zs.length = inn := by rw [hzs]; simpa using hy
    have hzg : ∀ i, i < inn → zs.getD i 0 = 256 * ys.getD i 0 := fun i hi => by
      rw [hzs, List.getD_eq_getElem?_getD, List.getD_eq_getElem?_getD, List.getElem?_map, List.getElem?_eq_getElem (by omega)]; rfl
    have sc := gscaled_r inn out s vals zs g ⟨hzl, fun i hi => by rw [hzg i hi]; have := yb i hi; omega⟩
    have en : nz zs = tab inn fun i => 256 * ((ys.getD i 0 : Nat) : Int) := is_tab 0 (by rw [nz_len]; exact hzl) fun i hi => by rw [nz_get, hzg i hi]; omega
    have eV : (fun o => graw vals out s (gstep s) o zs) = dlV vals out s ys := by rw [hzs]; rfl
    have Vb := fun o => dlV_bd (out := out) (s := s) (xs := ys) hv o
    rw [en, eV] at sc
    have st := gstep_c inn out s vals g
    have lq : (dlQ vals out s ys).length = out := dlQ_len
    have eQ : dlQ vals out s ys = tab out fun o => near (dlV vals out s ys o) (256 * (gstep s : Int)) := by unfold dlQ; exact tab_congr fun o _ => near_256.symm
    obtain ⟨V, hV⟩ : ∃ V, V = dlV vals out s ys := ⟨_, rfl⟩
    rw [← hV] at sc Vb eQ
    obtain ⟨q, hq⟩ : ∃ q, q = dlQ vals out s ys := ⟨_, rfl⟩
    rw [← hq] at cv lq eQ
    have sm := fun l (hl : q = l) => sameInts_c q l (by unfold Due; omega)
    repeat' (first
      | ((with_reducible refine TOps.any ?_); refine TOps.callV env (by rfl) (by rfl) (by rfl) (dvlWorks_c) ?_)
      | ((with_reducible refine TOps.any ?_); refine TOps.callV env (by rfl) (by rfl) (by rfl) (cv) ?_)
      | refine GZp_i_2i_y ?_ ?_ ?_ ?_ ?_ ?_ ?_ ?_
      | with_reducible first | exact BzZq.mk | refine Tw.ret ?_ | refine ImZq.i fun h => ?_ | refine IkZq.i fun hk => ?_)
    have lzi : (nz ys).length = inn := lz
    refine Tw.loopK [2, 5, 28, 29] (fun i : Nat => i ≤ inn) (fun i => inn - i) (fun i => [(30, .int .i64 i), (7, .sla 1 1 0 i)]) (fun i => [some (.cells [.int .i64 inn, .int .i64 out, .int .i64 s, .lst Ei vals]), some (.arr Ei (tab i fun i => 256 * ((ys.getD i 0 : Nat) : Int)))]) ⟨0, by omega, TWk.fcanon env [some 0, none] (by rfl) ?_⟩ (fun i hi => ?_)
    · repeat' (first
        | with_reducible first | exact Conj.nil | refine Conj.cons rfl ?_ | refine Conj.same ?_ | refine Conj.ask ?_ ?_
        | ((with_reducible refine Due.mk ?_); (first | with_reducible rfl | omega | assumption | decide | ((try simp only [goS] at *) <;> (try intro h) <;> (try intro h') <;> (try simp only [goS] at *) <;> (try simp only [rdi, rd2i, rdy, Int.toNat_natCast, Nat.add_zero] at *) <;> (try simp only [rng]) <;> (first | assumption | omega)) | (exact due_app0 (by omega)) | (exact due_app (by omega)) | (intros; simp; done) | (intros; simp; omega)))
        | with_reducible refine Due.mk ?_
        | omega)
    have tl : (tab i fun i => 256 * ((ys.getD i 0 : Nat) : Int)).length = i := tab_len
    rcases Nat.lt_or_ge i inn with hi2 | hi2
    · have xb := yb i hi2
      have e1 : (nz ys).getD i 0 = ((ys.getD i 0 : Nat) : Int) := nz_get
      have ps : (tab (i + 1) fun i => 256 * ((ys.getD i 0 : Nat) : Int)) = cut (tab i fun i => 256 * ((ys.getD i 0 : Nat) : Int)) 0 i ++ cut [256 * (nz ys).getD i 0] 0 1 := by rw [e1, cut_tab, cut_one, tab_succ]
      repeat' (first
        | refine GZy_i_2i_y (And.intro tl (And.intro lz e1)) ?_ ?_ ?_ ?_ ?_ ?_ ?_ ?_
        | with_reducible first | exact BzZq.mk | refine Tw.ret ?_ | refine ImZq.i fun h => ?_ | refine IkZq.i fun hk => ?_)
      refine ⟨i + 1, by omega, by omega, TWk.fcanon env [some 0, some 3] (by rfl) ?_⟩
      repeat' (first
        | exact ps
        | with_reducible first | exact Conj.nil | refine Conj.cons rfl ?_ | refine Conj.same ?_ | refine Conj.ask ?_ ?_
        | ((with_reducible refine Due.mk ?_); (first | with_reducible rfl | omega | assumption | decide | ((try simp only [goS] at *) <;> (try intro h) <;> (try intro h') <;> (try simp only [goS] at *) <;> (try simp only [rdi, rd2i, rdy, Int.toNat_natCast, Nat.add_zero] at *) <;> (try simp only [rng]) <;> (first | assumption | omega)) | (exact due_app0 (by omega)) | (exact due_app (by omega)) | (intros; simp; done) | (intros; simp; omega)))
        | with_reducible refine Due.mk ?_
        | omega)
    obtain rfl : i = inn := by omega
    repeat' (first
      | refine GZp_i_2i_y ?_ ?_ ?_ ?_ ?_ ?_ ?_ ?_
      | with_reducible first | exact BzZq.mk | refine Tw.ret ?_ | refine ImZq.i fun h => ?_ | refine IkZq.i fun hk => ?_)
    have pl2 : 0 + i ≤ (tab i fun i => 256 * ((ys.getD i 0 : Nat) : Int)).length := by rw [tab_len]; omega
    refine TOps.frz env 1 (by rfl) (by rfl) (by rfl) ?_ ?_ ?_
    · repeat' (first
        | exact pl2
        | with_reducible first | exact Conj.nil | refine Conj.cons rfl ?_ | refine Conj.same ?_ | refine Conj.ask ?_ ?_
        | ((with_reducible refine Due.mk ?_); (first | with_reducible rfl | omega | assumption | decide | ((try simp only [goS] at *) <;> (try intro h) <;> (try intro h') <;> (try simp only [goS] at *) <;> (try simp only [rdi, rd2i, rdy, Int.toNat_natCast, Nat.add_zero] at *) <;> (try simp only [rng]) <;> (first | assumption | omega)) | (exact due_app0 (by omega)) | (exact due_app (by omega)) | (intros; simp; done) | (intros; simp; omega)))
        | with_reducible refine Due.mk ?_
        | omega)
    · repeat' (first
        | exact pl2
        | with_reducible first | exact Conj.nil | refine Conj.cons rfl ?_ | refine Conj.same ?_ | refine Conj.ask ?_ ?_
        | ((with_reducible refine Due.mk ?_); (first | with_reducible rfl | omega | assumption | decide | ((try simp only [goS] at *) <;> (try intro h) <;> (try intro h') <;> (try simp only [goS] at *) <;> (try simp only [rdi, rd2i, rdy, Int.toNat_natCast, Nat.add_zero] at *) <;> (try simp only [rng]) <;> (first | assumption | omega)) | (exact due_app0 (by omega)) | (exact due_app (by omega)) | (intros; simp; done) | (intros; simp; omega)))
        | with_reducible refine Due.mk ?_
        | omega)
    rw [cut_tab]
    repeat' (first
      | ((with_reducible refine TOps.any ?_); refine TOps.callV env (by rfl) (by rfl) (by rfl) (sc) ?_)
      | ((with_reducible refine TOps.any ?_); refine TOps.callV env (by rfl) (by rfl) (by rfl) (st) ?_)
      | refine GZp_i_2i_y ?_ ?_ ?_ ?_ ?_ ?_ ?_ ?_
      | with_reducible first | exact BzZq.mk | refine Tw.ret ?_ | refine ImZq.i fun h => ?_ | refine IkZq.i fun hk => ?_)
    clear sc
    have tlV : (tab out V).length = out := tab_len
    refine Tw.loopK [5, 10, 12, 62] (fun o : Nat => o ≤ out) (fun o => out - o) (fun o => [(63, .int .i64 o)]) (fun o => [none, none, some (.arr Ei (tab out fun j => if j < o then near (V j) (256 * (gstep s : Int)) else V j))]) ⟨0, by omega, TWk.fcanon env [some 0, some 1, some 2] (by rfl) ?_⟩ (fun o ho => ?_)
    · repeat' (first
        | with_reducible first | exact Conj.nil | refine Conj.cons rfl ?_ | refine Conj.same ?_ | refine Conj.ask ?_ ?_
        | ((with_reducible refine Due.mk ?_); (first | with_reducible rfl | omega | assumption | decide | ((try simp only [goS] at *) <;> (try intro h) <;> (try intro h') <;> (try simp only [goS] at *) <;> (try simp only [rdi, rd2i, rdy, Int.toNat_natCast, Nat.add_zero] at *) <;> (try simp only [rng]) <;> (first | assumption | omega)) | (exact due_app0 (by omega)) | (exact due_app (by omega)) | (intros; simp; done) | (intros; simp; omega)))
        | with_reducible refine Due.mk ?_
        | omega)
      all_goals exact tab_congr fun j _ => by rw [if_neg (by omega)]
    have dl : (tab out fun j => if j < o then near (V j) (256 * (gstep s : Int)) else V j).length = out := tab_len
    rcases Nat.lt_or_ge o out with ho2 | ho2
    · have vb := Vb o
      have eo : (tab out fun j => if j < o then near (V j) (256 * (gstep s : Int)) else V j).getD o 0 = V o := by rw [tab_get ho2, if_neg (by omega)]
      have nn := rRound_c (V o) (256 * (gstep s : Int)) (by unfold Due; omega)
      have nx : (tab out fun j => if j < o then near (V j) (256 * (gstep s : Int)) else V j).set o (near (V o) (256 * (gstep s : Int))) = tab out fun j => if j < o + 1 then near (V j) (256 * (gstep s : Int)) else V j := by
        rw [tab_set]
        refine tab_congr fun j hj => ?_
        by_cases e : j = o
        · subst e
          rw [if_pos rfl, if_pos (by omega)]
        · rw [if_neg e]
          by_cases h2 : j < o
          · rw [if_pos h2, if_pos (by omega)]
          · rw [if_neg h2, if_neg (by omega)]
      generalize (tab out fun j => if j < o then near (V j) (256 * (gstep s : Int)) else V j) = D at *
      repeat' (first
        | refine GZy_i_2i_y (And.intro dl eo) ?_ ?_ ?_ ?_ ?_ ?_ ?_ ?_
        | with_reducible first | exact BzZq.mk | refine Tw.ret ?_ | refine ImZq.i fun h => ?_ | refine IkZq.i fun hk => ?_)
      rw [show D.getD ((o : Int).toNat + 0) (R.d Ei) = V o from eo]
      repeat' (first
        | ((with_reducible refine TOps.any ?_); refine TOps.callV env (by rfl) (by rfl) (by rfl) (nn) ?_)
        | refine GZy_i_2i_y dl ?_ ?_ ?_ ?_ ?_ ?_ ?_ ?_
        | with_reducible first | exact BzZq.mk | refine Tw.ret ?_ | refine ImZq.i fun h => ?_ | refine IkZq.i fun hk => ?_)
      refine ⟨o + 1, by omega, by omega, TWk.fcanon env [some 0, some 1, some 2] (by rfl) ?_⟩
      repeat' (first
        | exact nx.symm
        | with_reducible first | exact Conj.nil | refine Conj.cons rfl ?_ | refine Conj.same ?_ | refine Conj.ask ?_ ?_
        | ((with_reducible refine Due.mk ?_); (first | with_reducible rfl | omega | assumption | decide | ((try simp only [goS] at *) <;> (try intro h) <;> (try intro h') <;> (try simp only [goS] at *) <;> (try simp only [rdi, rd2i, rdy, Int.toNat_natCast, Nat.add_zero] at *) <;> (try simp only [rng]) <;> (first | assumption | omega)) | (exact due_app0 (by omega)) | (exact due_app (by omega)) | (intros; simp; done) | (intros; simp; omega)))
        | with_reducible refine Due.mk ?_
        | omega)
    obtain rfl : o = out := by omega
    have eF : (tab o fun j => if j < o then near (V j) (256 * (gstep s : Int)) else V j) = q := by
      rw [eQ]
      refine tab_congr fun j hj => ?_
      rw [if_pos hj]
    rw [eF]
    repeat' (first
      | refine GZp_i_2i_y ?_ ?_ ?_ ?_ ?_ ?_ ?_ ?_
      | with_reducible first | exact BzZq.mk | refine Tw.ret ?_ | refine ImZq.i fun h => ?_ | refine IkZq.i fun hk => ?_)
    refine TOps.frz env 2 (by rfl) (by rfl) (by rfl) ?_ ?_ ?_
    · repeat' (first
        | with_reducible first | exact Conj.nil | refine Conj.cons rfl ?_ | refine Conj.same ?_ | refine Conj.ask ?_ ?_
        | ((with_reducible refine Due.mk ?_); (first | with_reducible rfl | omega | assumption | decide | ((try simp only [goS] at *) <;> (try intro h) <;> (try intro h') <;> (try simp only [goS] at *) <;> (try simp only [rdi, rd2i, rdy, Int.toNat_natCast, Nat.add_zero] at *) <;> (try simp only [rng]) <;> (first | assumption | omega)) | (exact due_app0 (by omega)) | (exact due_app (by omega)) | (intros; simp; done) | (intros; simp; omega)))
        | with_reducible refine Due.mk ?_
        | omega)
    · repeat' (first
        | with_reducible first | exact Conj.nil | refine Conj.cons rfl ?_ | refine Conj.same ?_ | refine Conj.ask ?_ ?_
        | ((with_reducible refine Due.mk ?_); (first | with_reducible rfl | omega | assumption | decide | ((try simp only [goS] at *) <;> (try intro h) <;> (try intro h') <;> (try simp only [goS] at *) <;> (try simp only [rdi, rd2i, rdy, Int.toNat_natCast, Nat.add_zero] at *) <;> (try simp only [rng]) <;> (first | assumption | omega)) | (exact due_app0 (by omega)) | (exact due_app (by omega)) | (intros; simp; done) | (intros; simp; omega)))
        | with_reducible refine Due.mk ?_
        | omega)
    rw [cut_all lq.symm]
    repeat' (first
      | ((with_reducible refine TOps.any ?_); refine TOps.callV env (by rfl) (by rfl) (by rfl) (sm q rfl) ?_)
      | refine GZp_i_2i_y ?_ ?_ ?_ ?_ ?_ ?_ ?_ ?_
      | with_reducible first | exact BzZq.mk | refine Tw.ret ?_ | refine ImZq.i fun h => ?_ | refine IkZq.i fun hk => ?_)
    exact ⟨rfl, congrArg TV.bool (by simp), rfl⟩
  · have cv := convert_n a b c vals xs w1.1 w2.1 h0
    repeat' (first
      | ((with_reducible refine TOps.any ?_); refine TOps.callV env (by rfl) (by rfl) (by rfl) (dvlWorks_c) ?_)
      | ((with_reducible refine TOps.any ?_); refine TOps.callV env (by rfl) (by rfl) (by rfl) (cv) ?_)
      | refine GZp_i_2i_y ?_ ?_ ?_ ?_ ?_ ?_ ?_ ?_
      | with_reducible first | exact BzZq.mk | refine Tw.ret ?_ | refine ImZq.i fun h => ?_ | refine IkZq.i fun hk => ?_)
    exact ⟨rfl, congrArg TV.bool (by simp), rfl⟩
end Go.Proofs.Ytogbkhopanaoiaa
