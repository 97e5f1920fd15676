/- Plain: a press that is corrected comes to print good sheets. -/
import Derived.Test.YtbaepacihkgalaaStl2
namespace Go.Proofs.Ytbaepacihkgalaa
open Go Go.Lite
set_option linter.unusedVariables false
set_option linter.unusedSimpArgs false
set_option maxRecDepth 100000
set_option maxHeartbeats 4000000

theorem div_next {k I : Nat} (hI : 1 ≤ I) : ((k + 1) % I = 0 ∧ k % I + 1 = I ∧ (k + 1) / I = k / I + 1) ∨ (¬ (k + 1) % I = 0 ∧ (k + 1) % I = k % I + 1 ∧ (k + 1) / I = k / I) := by
  have h1 := Nat.mod_lt k hI
  have h2 := Nat.div_add_mod k I
  by_cases e : k % I + 1 = I
  · have h3 : k + 1 = I * (k / I + 1) := by rw [Nat.mul_add, Nat.mul_one]; omega
    refine .inl ⟨?_, e, ?_⟩
    · rw [h3, Nat.mul_mod_right]
    · rw [h3, Nat.mul_div_cancel_left _ hI]
  · have h3 : k + 1 = I * (k / I) + (k % I + 1) := by omega
    have h4 : (k + 1) % I = k % I + 1 := by rw [h3, Nat.mul_add_mod]; exact Nat.mod_eq_of_lt (by omega)
    refine .inr ⟨by omega, h4, ?_⟩
    rw [h3, Nat.mul_add_div hI, Nat.div_eq_of_lt (show k % I + 1 < I by omega)]; rfl
theorem si_step {S : Su} {u k I : Nat} {g : Nat → Int} {s : Lp} (so : SuOk S u) (ok : LpOk S u k s) (hT : ∀ i, i < u → 0 ≤ S.tg.getD i 0 ∧ S.tg.getD i 0 ≤ 4000) (hg : ∀ i, i < u → 4 ≤ g i ∧ g i ≤ 12) (hI : 64 ≤ I) (h : SI S u g I k s) : SI S u g I (k + 1) (lpS S u k s) := by
  obtain ⟨okB, _⟩ := lpB_ok so ok
  have dn := fun i hi => si_dn so okB h (i := i) hi
  obtain ⟨q, eq⟩ : ∃ q, q = lpB S k s := ⟨_, rfl⟩
  have hj := h.j
  rw [← eq] at dn hj
  have esh : ∀ i, i < u → (shK S q.us u).getD i (0, 0) = (0, 0) := fun i hi => by
    rw [show (shK S q.us u).getD i (0, 0) = ((dnU S q.us i).x, (dnU S q.us i).y) from tab_get hi, (dn i hi).1, (dn i hi).2.1]
  have efm : ∀ i, i < u → (flL S q.us u 0).getD i [] = (dnU S q.us i).fl := fun i hi => by rw [flL_at hi, Nat.zero_add]
  have eus : ∀ i, i < u → (fedP S u q).us i = dnU S q.us i := fun i hi => by
    show fe0 S q.us u i = _
    unfold fe0
    rw [if_pos hi]
  have fo := feE_fold (S := S) (u := u) (c := s.c) (sh := shK S q.us u) (fm := flL S q.us u 0) (p := fedP S u q) (fun i hi => by rw [eus i hi]; exact (dn i hi).2.2.2.2.2.1) ok.c.kl esh u (Nat.le_refl u)
  have er : (lpS S u k s).rest = [] := h.r
  have eB : lpB S (k + 1) (lpS S u k s) = { fedP S u q with us := fun i => if i < u then { (fedP S u q).us i with ks := kdn S s.c (flL S q.us u 0) i } else (fedP S u q).us i } := by
    rw [← fo, eq]
    unfold lpB
    rw [er]
    show (feE S s.c _ _ u ++ []).foldl (evP S.Z) _ = _
    rw [List.append_nil]
    rfl
  have eK : ∀ i, i < u → (lpS S u k s).c.ks i = kdn S s.c (flL S q.us u 0) i := fun i hi => by
    rw [eq]
    show keK S s.c _ u i = _
    unfold keK
    rw [if_pos hi]
  have eR : rem (s.c.n + 1) s.c.ci = (((k + 1) % I : Nat) : Int) := by
    rw [h.n, h.ci]
    unfold rem
    rw [Int.tmod_eq_emod_of_nonneg (by omega)]
    rfl
  refine ⟨?_, ?_, ?_, h.ci, fun i hi => ?_, fun i z hi hz => ?_⟩
  · rw [eB]
    show (if 0 < q.j then q.j - 1 else q.j) = 0
    rw [hj]; rfl
  · rw [er]; rfl
  · show s.c.n + 1 = _
    rw [h.n]; omega
  · rw [eB, eK i hi]
    dsimp only
    rw [if_pos hi, eus i hi]
    obtain ⟨a1, a2, a3, a4, a5, _⟩ := dn i hi
    exact ⟨a1, a2, a3, a4, a5, rfl⟩
  · rw [eB]
    dsimp only
    rw [if_pos hi, eus i hi]
    dsimp only
    have hn := (dn i hi).2.2.2.2.2.2 z hz
    have hv := (so.l i hi).2 z hz
    rcases div_next (k := k) (I := I) (by omega) with ⟨m1, m2, m3⟩ | ⟨m1, m2, m3⟩
    · rw [m1, m3]
      unfold kdn
      rw [if_pos (by rw [eR, m1]; rfl), skzL_at S.Z z hz (by rw [ok.c.kl i hi]; exact hz)]
      unfold kyN
      rw [efm i hi]
      exact ni_correct hv (hT i hi) (hg i hi) (by omega) hn
    · rw [m2, m3]
      unfold kdn
      rw [if_neg (by rw [eR]; omega)]
      exact hn
/-- The events that set the gains. -/
def gnE (g : Nat → Int) (u : Nat) : List Ev := tab u fun i => (1, 2, (i : Int), 0, g i, 0)
theorem gnE_succ {g : Nat → Int} {u : Nat} : gnE g (u + 1) = gnE g u ++ [(1, 2, (u : Int), 0, g u, 0)] := tab_succ
theorem tkE_all {k : Int} : ∀ {l : List Ev}, (∀ v ∈ l, v.1 = k) → tkE k l = (l, [])
  | [], _ => rfl
  | v :: l, h => by rw [tkE, if_pos (h v (List.mem_cons_self ..)), tkE_all fun w hw => h w (List.mem_cons_of_mem _ hw)]
theorem gnE_mem {g : Nat → Int} {u : Nat} {v : Ev} (h : v ∈ gnE g u) : ∃ i, i < u ∧ v = (1, 2, (i : Int), 0, g i, 0) := by
  unfold gnE tab at h
  obtain ⟨i, hi, rfl⟩ := List.mem_map.1 h
  exact ⟨i, List.mem_range.1 hi, rfl⟩
theorem gnE_fold {S : Su} {g : Nat → Int} : ∀ m, (gnE g m).foldl (evP S.Z) (newP S) = { newP S with us := fun i => if i < m then { newU S i with gn := g i } else newU S i }
  | 0 => rfl
  | m + 1 => by
    rw [gnE_succ, List.foldl_append, gnE_fold m, List.foldl_cons, List.foldl_nil]
    unfold evP
    rw [if_neg (show ¬ (2 : Int) = 3 by omega), if_neg (show ¬ (2 : Int) = 6 by omega), if_neg (show ¬ (2 : Int) = 5 by omega)]
    dsimp only
    rw [Int.toNat_natCast]
    have e : upU (fun i => if i < m then { newU S i with gn := g i } else newU S i) m (evU S.Z (if m < m then { newU S m with gn := g m } else newU S m) 2 0 (g m) 0) = fun i => if i < m + 1 then { newU S i with gn := g i } else newU S i := by
      funext i
      unfold upU
      by_cases h : i = m
      · subst h
        rw [if_pos rfl, if_neg (show ¬ i < i by omega), if_pos (show i < i + 1 by omega)]
        unfold evU
        rw [if_neg (show ¬ (2 : Int) = 0 by omega), if_neg (show ¬ (2 : Int) = 1 by omega), if_pos rfl]
      · rw [if_neg h]
        dsimp only
        by_cases h2 : i < m
        · rw [if_pos h2, if_pos (by omega)]
        · rw [if_neg h2, if_neg (by omega)]
    rw [e]
theorem si_first {S : Su} {u I : Nat} {g : Nat → Int} {cr : Int} (so : SuOk S u) (hT : ∀ i, i < u → 0 ≤ S.tg.getD i 0 ∧ S.tg.getD i 0 ≤ 4000) (hg : ∀ i, i < u → 4 ≤ g i ∧ g i ≤ 12) (hK : ∀ i z, i < u → z < S.Z → 0 ≤ (S.ks.getD i []).getD z 0 ∧ (S.ks.getD i []).getD z 0 ≤ 500) : SI S u g I 0 (lp S u (newCt S I cr) (gnE g u) 0) := by
  have tk : tkE 1 (gnE g u) = (gnE g u, []) := tkE_all fun v hv => by obtain ⟨i, _, rfl⟩ := gnE_mem hv; rfl
  have eB : lpB S 0 (lp S u (newCt S I cr) (gnE g u) 0) = { newP S with us := fun i => if i < u then { newU S i with gn := g i } else newU S i } := by
    show ([] ++ (tkE (((0 : Nat) : Int) + 1) (gnE g u)).1).foldl (evP S.Z) (newP S) = _
    rw [show ((0 : Nat) : Int) + 1 = 1 from rfl, tk, List.nil_append, gnE_fold]
  refine ⟨by rw [eB]; rfl, ?_, rfl, rfl, fun i hi => ?_, fun i z hi hz => ?_⟩
  · show (tkE (((0 : Nat) : Int) + 1) (gnE g u)).2 = []
    rw [show ((0 : Nat) : Int) + 1 = 1 from rfl, tk]
  · rw [eB]
    dsimp only
    rw [if_pos hi]
    exact ⟨rfl, rfl, rfl, rfl, rfl, rfl⟩
  · rw [eB]
    dsimp only
    rw [if_pos hi, Nat.zero_div, Nat.zero_mod]
    show NI _ _ _ ((S.ks.getD i []).getD z 0) ((List.replicate S.Z (0 : Int)).getD z 0) 0 0
    rw [show (List.replicate S.Z (0 : Int)).getD z 0 = 0 from getD_repl hz]
    exact ni_first ((so.l i hi).2 z hz) (hT i hi) (hg i hi) (hK i z hi hz)
theorem gnE_ok {S : Su} {u : Nat} {g : Nat → Int} (hu : u ≤ 3) (hg : ∀ i, i < u → 4 ≤ g i ∧ g i ≤ 12) : ∀ v ∈ gnE g u, evE v u S.Z = 0 := fun v hv => by
  obtain ⟨i, hi, rfl⟩ := gnE_mem hv
  have := hg i hi
  unfold evE
  rw [if_neg (by dsimp only; omega), if_neg (Decidable.not_not.2 (by dsimp only; unfold frmK; omega)), if_neg (Decidable.not_not.2 (by dsimp only; unfold inK; simp [lowK, topK]; omega))]
theorem si_all {S : Su} {u I : Nat} {g : Nat → Int} {cr : Int} (so : SuOk S u) (hc : ctlE I cr = 0) (hT : ∀ i, i < u → 0 ≤ S.tg.getD i 0 ∧ S.tg.getD i 0 ≤ 4000) (hg : ∀ i, i < u → 4 ≤ g i ∧ g i ≤ 12) (hI : 64 ≤ I) (hK : ∀ i z, i < u → z < S.Z → 0 ≤ (S.ks.getD i []).getD z 0 ∧ (S.ks.getD i []).getD z 0 ≤ 500) : ∀ k, k ≤ 3999 → SI S u g I k (lp S u (newCt S I cr) (gnE g u) k) ∧ LpOk S u k (lp S u (newCt S I cr) (gnE g u) k)
  | 0, _ => ⟨si_first so hT hg hK, lp_ok so (newCt_ok so hc) rfl (gnE_ok so.un.2 hg) 0 (by omega)⟩
  | k + 1, h => by
    obtain ⟨h1, h2⟩ := si_all so hc hT hg hI hK k (by omega)
    exact ⟨si_step so h2 hT hg hI h1, lp_ok so (newCt_ok so hc) rfl (gnE_ok so.un.2 hg) (k + 1) (by omega)⟩
theorem settled {S : Su} {u I : Nat} {g : Nat → Int} {cr : Int} (so : SuOk S u) (hc : ctlE I cr = 0) (hT : ∀ i, i < u → 0 ≤ S.tg.getD i 0 ∧ S.tg.getD i 0 ≤ 4000) (hg : ∀ i, i < u → 4 ≤ g i ∧ g i ≤ 12) (hI : 64 ≤ I) (hK : ∀ i z, i < u → z < S.Z → 0 ≤ (S.ks.getD i []).getD z 0 ∧ (S.ks.getD i []).getD z 0 ≤ 500) (hmr : S.mr = 0) (htol : S.tol = 80) {n k : Nat} (hk : k < n) (hn : n ≤ 3999) (h12 : 12 * I + 63 ≤ k) : ((lpL S u (newCt S I cr) (gnE g u) n).getD k (0, 0, [], [], 0)).2.1 = 0 := by
  obtain ⟨h, ok⟩ := si_all (cr := cr) so hc hT hg hI hK k (by omega)
  rw [lpL_succ' hk]
  show fedS S u _ = 0
  obtain ⟨okB, _⟩ := lpB_ok so ok
  have dn := fun i hi => si_dn so okB h (i := i) hi
  have hj := h.j
  generalize lpB S k (lp S u (newCt S I cr) (gnE g u) k) = q at *
  have hjm : 13 ≤ k / I ∨ (k / I = 12 ∧ 64 ≤ k % I + 1) := by
    by_cases h13 : 13 * I ≤ k
    · exact .inl ((Nat.le_div_iff_mul_le (by omega)).2 h13)
    · right
      have e : k = I * 12 + (k - I * 12) := by omega
      have e1 : k / I = 12 := by
        rw [e, Nat.mul_add_div (by omega), Nat.div_eq_of_lt (by omega)]
      have e2 : k % I = k - I * 12 := by
        rw [e, Nat.mul_add_mod, Nat.mod_eq_of_lt (by omega)]
        omega
      exact ⟨e1, by rw [e2]; omega⟩
  unfold fedS
  rw [if_neg (by omega), if_pos]
  refine ⟨by rw [hmr]; show 0 < q.s + 1; have := okB.s; omega, fun i hi => ?_⟩
  have eus : (ps1 S q (fe0 S q.us u)).us i = dnU S q.us i := by
    show fe0 S q.us u i = _
    unfold fe0
    rw [if_pos hi]
  rw [eus]
  obtain ⟨a1, a2, _, _, _, _, a7⟩ := dn i hi
  have rg := so.rg
  refine ⟨⟨by rw [a1]; omega, by rw [a1]; omega, by rw [a2]; omega, by rw [a2]; omega⟩, fun z hz => ?_⟩
  have := ni_good ((so.l i hi).2 z hz) hjm (a7 z hz)
  unfold tolQ
  rw [htol]
  exact this
end Go.Proofs.Ytbaepacihkgalaa
