/- The law DevicelinkSelf. -/
import Derived.Test.YtkapjajlkpepmaaDls3
import Derived.Test.YtkapjajlkpepmaaDvl2
import Derived.Test.YtkapjajlkpepmaaDvlW
import Derived.Test.YtkapjajlkpepmaaRMod
import Derived.Test.YtkapjajlkpepmaaXDevicelinkSelf0
import Derived.Test.YtkapjajlkpepmaaGo
namespace Go.Proofs.Ytkapjajlkpepmaa
open Go Go.Lite
set_option linter.unusedVariables false
set_option linter.unusedSimpArgs false
set_option maxRecDepth 100000
set_option maxHeartbeats 4000000
-- @simp rdi rd2i rdL2iJ

theorem DevicelinkSelf_main (p : Prf) (kind : Int) (ts : List Int) (w : PrfW p) (rk : -9223372036854775808 ≤ kind ∧ kind ≤ 9223372036854775807) (wt : ts.length ≤ 9223372036854775807 ∧ ∀ y ∈ ts, Wi y) :
    TC R Try.prog K2_DevicelinkSelf_f [.agg (encP p), .int .i64 kind, .lst Ei ts] [] (fun v X => v = .bool true ∧ X = []) := by
  have m1 := rMod_c kind 3 (by unfold Due; omega)
  have mb : 0 ≤ kind % 3 ∧ kind % 3 < 3 := by omega
  obtain ⟨sz, st, hz, hg⟩ : ∃ sz st : Nat, szOk sz st ∧ ([2, 4, 6] : List Int).getD ((kind % 3).toNat + 0) 0 = (sz : Int) := by
    have : kind % 3 = 0 ∨ kind % 3 = 1 ∨ kind % 3 = 2 := by omega
    rcases this with e | e | e
    · exact ⟨2, 255, by unfold szOk; omega, by rw [e]; rfl⟩
    · exact ⟨4, 85, by unfold szOk; omega, by rw [e]; rfl⟩
    · exact ⟨6, 51, by unfold szOk; omega, by rw [e]; rfl⟩
  have szb : 2 ≤ sz ∧ sz ≤ 6 := by unfold szOk at hz; omega
  have stb : 51 ≤ st ∧ st ≤ 255 := by unfold szOk at hz; omega
  have q1 : quo 255 ((sz : Int) - 1) = (st : Int) := by
    rcases hz with ⟨rfl, rfl⟩ | ⟨rfl, rfl⟩ | ⟨rfl, rfl⟩ <;> decide
  have d2 : rng .i64 (quo 255 ((sz : Int) - 1)) := by rw [q1]; simp only [rng]; omega
  have d3 : rng .i64 (quo 255 (([2, 4, 6] : List Int).getD ((kind % 3).toNat + 0) 0 - 1)) := by rw [hg]; exact d2
  have q2 : (st : Int) = quo 255 (([2, 4, 6] : List Int).getD ((kind % 3).toNat + 0) 0 - 1) := by rw [hg, q1]
  clear m1
  have m1 := rMod_c kind 3 (by unfold Due; omega)
  refine tc0 env K2_DevicelinkSelf_s (by rfl) ?_
  dsimp only [K2_DevicelinkSelf_c, encP]
  repeat' (first
    | ((with_reducible refine TOps.any ?_); refine TOps.callV env (by rfl) (by rfl) (by rfl) (dvlWorks_c) ?_)
    | ((with_reducible refine TOps.any ?_); refine TOps.callV env (by rfl) (by rfl) (by rfl) (m1) ?_)
    | exact d3
    | refine GZp_i_2i_L2iJ ?_ ?_ ?_ ?_ ?_ ?_ ?_ ?_
    | with_reducible first | exact BzZq.mk | refine Tw.ret ?_ | refine ImZq.i fun h => ?_ | refine IkZq.i fun hk => ?_)
  refine TOps.weaken (TWk.fcanon env [some 0, some 2] (F' := [(2, .lst Ei ts), (3, .ptr 0 0), (7, .ptr 1 0), (28, .agg (encP p)), (29, .agg (encP p)), (30, .agg [.int .i64 sz, .int .i64 st, .int .i64 2040, .bool false, .int .i64 0, .int .i64 0, .int .i64 0])])
    (H' := [some (.cells (encP p)), some (.cells [.int .i64 sz, .int .i64 st, .int .i64 2040, .bool false, .int .i64 0, .int .i64 0, .int .i64 0])]) (by rfl) ?_) ?_
  · repeat' (first
      | exact hg.symm
      | exact q2
      | with_reducible first | exact Conj.nil | refine Conj.cons rfl ?_ | refine Conj.same ?_ | refine Conj.ask ?_ ?_
      | ((with_reducible refine Due.mk ?_); (first | with_reducible rfl | omega | assumption | decide | ((try simp only [goS] at *) <;> (try intro h) <;> (try intro h') <;> (try simp only [goS] at *) <;> (try simp only [rdi, rd2i, rdL2iJ, Int.toNat_natCast, Nat.add_zero] at *) <;> (try simp only [rng]) <;> (first | assumption | omega)) | (exact due_app0 (by omega)) | (exact due_app (by omega)) | (intros; simp; done) | (intros; simp; omega)))
      | with_reducible refine Due.mk ?_
      | omega)
  clear m1 d3 q2 hg mb rk
  by_cases hbad : prfE p ≠ 0 ∨ ∃ n s, PrfOk p n s ∧ 256 < sz ^ n
  · obtain ⟨e, he, bn⟩ := build_n p sz st w hz hbad
    repeat' (first
      | ((with_reducible refine TOps.any ?_); refine TOps.callV env (by rfl) (by rfl) (by rfl) (bn) ?_)
      | refine GZp_i_2i_L2iJ ?_ ?_ ?_ ?_ ?_ ?_ ?_ ?_
      | with_reducible first | exact BzZq.mk | refine Tw.ret ?_ | refine ImZq.i fun h => ?_ | refine IkZq.i fun hk => ?_)
    exact ⟨rfl, congrArg TV.bool (by simp), rfl⟩
  have h0 : prfE p = 0 := by
    by_cases h : prfE p = 0
    · exact h
    · exact absurd (.inl h) hbad
  obtain ⟨n, s, ok⟩ := prfE_ok h0
  have hb : ¬ 256 < sz ^ n := fun h => hbad (.inr ⟨n, s, ok, h⟩)
  have gi := ok.g.i1
  obtain ⟨f, hf⟩ := nodes_ex p n s sz st ok hz
  have by_ := build_y p n s sz st w h0 ok hz hb f hf
  obtain ⟨g, full⟩ := lnk_ok hf hz gi hb
  obtain ⟨y, hy⟩ : ∃ y : Nat → Nat, y = fun k => if k < ts.length then (ts.getD k 0 % (sz : Int)).toNat else 0 := ⟨_, rfl⟩
  have yb : ∀ k, k < n → y k < sz := fun k _ => by
    rw [hy]
    dsimp only
    split
    · have := Int.emod_nonneg (ts.getD k 0) (show (sz : Int) ≠ 0 by omega)
      have := Int.emod_lt_of_pos (ts.getD k 0) (show 0 < (sz : Int) by omega)
      omega
    · omega
  obtain ⟨zs, nk, hq⟩ := lnk_at hf hz gi yb
  have oo := own_ok hz yb
  have h1 : dlE n n sz (lnkV n sz f) = 0 := by
    unfold dlE
    rw [g.chk, if_neg (by simp)]
    refine fstE_zero.2 fun k hk => ?_
    have := full _ (getD_mem (d := 0) hk)
    unfold dlF
    rw [if_neg (by omega)]
  have vl : (lnkV n sz f).length ≤ 9223372036854775807 := by rw [g.len]; have := g.big; omega
  have fy := dfar_y p p n n s s sz (lnkV n sz f) (ownT n st y) zs w w vl h0 h0 h1 ok ok g full oo hq ⟨nk.len, nk.bd⟩
  rw [nk.far] at fy
  have lo : (nz (ownT n st y)).length = n := by rw [nz_len]; exact oo.1
  rw [← show cut (nz (ownT n st y)) 0 n = nz (ownT n st y) from cut_all lo.symm] at fy
  have lo2 : 0 + n ≤ (nz (ownT n st y)).length := by omega
  have eO : tab n (fun k => ((y k * st : Nat) : Int)) = nz (ownT n st y) := by unfold ownT; simp [nz, tab, List.map_map, Function.comp]
  generalize lnkV n sz f = V at *
  repeat' (first
    | ((with_reducible refine TOps.any ?_); refine TOps.callV env (by rfl) (by rfl) (by rfl) (by_) ?_)
    | refine GZp_i_2i_L2iJ ?_ ?_ ?_ ?_ ?_ ?_ ?_ ?_
    | with_reducible first | exact BzZq.mk | refine Tw.ret ?_ | refine ImZq.i fun h => ?_ | refine IkZq.i fun hk => ?_)
  rw [Int.toNat_natCast]
  refine Tw.loopK [2, 3, 7, 8, 10, 44] (fun i : Nat => i ≤ n) (fun i => n - i) (fun i => [(45, .int .i64 i)])
    (fun i => [some (.cells (encP p)), some (.cells [.int .i64 sz, .int .i64 st, .int .i64 2040, .bool false, .int .i64 0, .int .i64 0, .int .i64 0]), some (.cells [.int .i64 n, .int .i64 n, .int .i64 sz, .lst Ei V]), some (.arr Ei (ptab n i fun k => ((y k * st : Nat) : Int)))]) ⟨0, by omega, TWk.fcanon env [some 0, some 1, some 2, some 3] (by rfl) ?_⟩ (fun i hi => ?_)
  · repeat' (first
      | exact ptab_zero
      | with_reducible first | exact Conj.nil | refine Conj.cons rfl ?_ | refine Conj.same ?_ | refine Conj.ask ?_ ?_
      | ((with_reducible refine Due.mk ?_); (first | with_reducible rfl | omega | assumption | decide | ((try simp only [goS] at *) <;> (try intro h) <;> (try intro h') <;> (try simp only [goS] at *) <;> (try simp only [rdi, rd2i, rdL2iJ, Int.toNat_natCast, Nat.add_zero] at *) <;> (try simp only [rng]) <;> (first | assumption | omega)) | (exact due_app0 (by omega)) | (exact due_app (by omega)) | (intros; simp; done) | (intros; simp; omega)))
      | with_reducible refine Due.mk ?_
      | omega)
  have pl : (ptab n i fun k => ((y k * st : Nat) : Int)).length = n := ptab_len
  rcases Nat.lt_or_ge i n with hi2 | hi2
  · by_cases ht : i < ts.length
    · have wi : rng .i64 (ts.getD i 0) := wt.2 _ (getD_mem (d := 0) ht)
      simp only [rng] at wi
      have m2 := rMod_c (ts.getD i 0) (sz : Int) (by unfold Due; omega)
      have e0 := Int.emod_nonneg (ts.getD i 0) (show (sz : Int) ≠ 0 by omega)
      have ey : ts.getD i 0 % (sz : Int) = ((y i : Nat) : Int) := by rw [hy]; dsimp only; rw [if_pos ht]; omega
      have ob := oo.2 i hi2
      unfold ownT at ob
      rw [tab_get hi2] at ob
      have pv : ts.getD i 0 % (sz : Int) * (st : Int) = ((y i * st : Nat) : Int) := by rw [ey]; exact (Int.natCast_mul _ _).symm
      have ps : ptab n (i + 1) (fun k => ((y k * st : Nat) : Int)) = (ptab n i fun k => ((y k * st : Nat) : Int)).set i (ts.getD i 0 % (sz : Int) * (st : Int)) := by rw [pv]; exact (ptab_set (f := fun k => ((y k * st : Nat) : Int))).symm
      have d1 : -9223372036854775808 ≤ ts.getD i 0 % (sz : Int) * (st : Int) ∧ ts.getD i 0 % (sz : Int) * (st : Int) ≤ 9223372036854775807 := by rw [pv]; omega
      repeat' (first
        | ((with_reducible refine TDr.any ?_); refine TDr.callE env (by first | rfl | assumption) (by rfl) (by rfl) ?_ (m2) (by rfl) (by rfl) ?_)
        | exact d1
        | refine GZy_i_2i_L2iJ pl ?_ ?_ ?_ ?_ ?_ ?_ ?_ ?_
        | with_reducible first | exact BzZq.mk | refine Tw.ret ?_ | refine ImZq.i fun h => ?_ | refine IkZq.i fun hk => ?_)
      refine ⟨i + 1, by omega, by omega, TWk.fcanon env [some 0, some 1, some 2, some 3] (by rfl) ?_⟩
      repeat' (first
        | exact ps
        | with_reducible first | exact Conj.nil | refine Conj.cons rfl ?_ | refine Conj.same ?_ | refine Conj.ask ?_ ?_
        | ((with_reducible refine Due.mk ?_); (first | with_reducible rfl | omega | assumption | decide | ((try simp only [goS] at *) <;> (try intro h) <;> (try intro h') <;> (try simp only [goS] at *) <;> (try simp only [rdi, rd2i, rdL2iJ, Int.toNat_natCast, Nat.add_zero] at *) <;> (try simp only [rng]) <;> (first | assumption | omega)) | (exact due_app0 (by omega)) | (exact due_app (by omega)) | (intros; simp; done) | (intros; simp; omega)))
        | with_reducible refine Due.mk ?_
        | omega)
    · have y0 : y i = 0 := by rw [hy]; dsimp only; rw [if_neg ht]
      have ps : ptab n (i + 1) (fun k => ((y k * st : Nat) : Int)) = ptab n i fun k => ((y k * st : Nat) : Int) := ptab_skip (by rw [y0, Nat.zero_mul]; rfl)
      repeat' (first
        | refine GZy_i_2i_L2iJ pl ?_ ?_ ?_ ?_ ?_ ?_ ?_ ?_
        | with_reducible first | exact BzZq.mk | refine Tw.ret ?_ | refine ImZq.i fun h => ?_ | refine IkZq.i fun hk => ?_)
      refine ⟨i + 1, by omega, by omega, TWk.fcanon env [some 0, some 1, some 2, some 3] (by rfl) ?_⟩
      repeat' (first
        | exact ps
        | with_reducible first | exact Conj.nil | refine Conj.cons rfl ?_ | refine Conj.same ?_ | refine Conj.ask ?_ ?_
        | ((with_reducible refine Due.mk ?_); (first | with_reducible rfl | omega | assumption | decide | ((try simp only [goS] at *) <;> (try intro h) <;> (try intro h') <;> (try simp only [goS] at *) <;> (try simp only [rdi, rd2i, rdL2iJ, Int.toNat_natCast, Nat.add_zero] at *) <;> (try simp only [rng]) <;> (first | assumption | omega)) | (exact due_app0 (by omega)) | (exact due_app (by omega)) | (intros; simp; done) | (intros; simp; omega)))
        | with_reducible refine Due.mk ?_
        | omega)
  have ei : i = n := by omega
  rw [ei, ptab_all, eO]
  repeat' (first
    | ((with_reducible refine TOps.any ?_); refine TOps.callE env (by rfl) (by rfl) (by rfl) ?_ (fy) (by rfl) ?_)
    | exact lo2
    | refine GZp_i_2i_L2iJ ?_ ?_ ?_ ?_ ?_ ?_ ?_ ?_
    | with_reducible first | exact BzZq.mk | refine Tw.ret ?_ | refine ImZq.i fun h => ?_ | refine IkZq.i fun hk => ?_)
  exact ⟨rfl, congrArg TV.bool (by simp), rfl⟩
theorem DevicelinkSelf_law (n1 : ByteArray) (i1 : List ByteArray) (c1 : List (List (Int × Int))) (a1 b1 s1 : Int) (v1 : List Int) (kind : Int) (ts : List Int)
    (w1 : n1.size ≤ 9223372036854775807) (w2 : i1.length ≤ 9223372036854775807 ∧ ∀ y ∈ i1, Ws y) (w3 : c1.length ≤ 9223372036854775807 ∧ ∀ y ∈ c1, WL2iJ y) (_ : rng .i64 a1) (_ : rng .i64 b1) (_ : rng .i64 s1) (w4 : v1.length ≤ 9223372036854775807 ∧ ∀ y ∈ v1, Wi y)
    (wk : rng .i64 kind) (w5 : ts.length ≤ 9223372036854775807 ∧ ∀ y ∈ ts, Wi y) :
    TC R Try.prog K2_DevicelinkSelf_f [.agg [.str n1, .lst Es i1, .lst EL2iJ c1, .int .i64 a1, .int .i64 b1, .int .i64 s1, .lst Ei v1], .int .i64 kind, .lst Ei ts] [] (fun v X => v = .bool true ∧ X = []) :=
  DevicelinkSelf_main ⟨n1, i1, c1, a1, b1, s1, v1⟩ kind ts ⟨w1, w2.1, w2.2, w3.1, w4.1⟩ wk w5
end Go.Proofs.Ytkapjajlkpepmaa
