/- Conditions: distinct numbers, libraries, tables are checked. -/
import Derived.Test.YtogbkhopanaoiaaCnd1
import Derived.Test.YtogbkhopanaoiaaDlk1
import Derived.Test.YtogbkhopanaoiaaGo
namespace Go.Proofs.Ytogbkhopanaoiaa
open Go Go.Lite
set_option linter.unusedVariables false
set_option linter.unusedSimpArgs false
set_option maxRecDepth 100000
set_option maxHeartbeats 4000000
-- @simp rdi rd2i

noncomputable def dsF (l : List Int) (n : Int) (i : Nat) : Int := if l.getD i 0 < 0 ∨ n ≤ l.getD i 0 then 3 else (@ite _ (∃ j, j < i ∧ l.getD j 0 = l.getD i 0) (Classical.propDecidable _) 7 0)
noncomputable def dsE (l : List Int) (n : Int) : Int := fstE (dsF l n) l.length
theorem distinct_c (l : List Int) (n : Int) (hl : Due (l.length ≤ 9223372036854775807)) : TC R Try.prog condition_distinct_f [.lst Ei l, .int .i64 n] [] (fun v X => v = .int .i64 (dsE l n) ∧ X = []) := by
  dsimp only [Due] at hl
  refine tc0 env condition_distinct_s (by rfl) ?_
  dsimp only [condition_distinct_c]
  repeat' (first
    | refine GZ_i_2i ?_ ?_ ?_ ?_ ?_ ?_ ?_ ?_
    | with_reducible first | exact BzZq.mk | refine Tw.ret ?_ | refine ImZq.i fun h => ?_ | refine IkZq.i fun hk => ?_)
  refine Tw.loopK [0, 1, 9, 10] (fun i : Nat => i ≤ l.length ∧ ∀ k, k < i → dsF l n k = 0) (fun i => l.length - i) (fun i => [(11, .int .i64 i)]) (fun _ => []) ⟨0, ⟨by omega, fun k hk => by omega⟩, TWk.fcanon env [] (by rfl) ?_⟩ (fun i hi => ?_)
  · repeat' (first
      | with_reducible first | exact Conj.nil | refine Conj.cons rfl ?_ | refine Conj.same ?_ | refine Conj.ask ?_ ?_
      | ((with_reducible refine Due.mk ?_); (first | with_reducible rfl | omega | assumption | decide | ((try simp only [goS] at *) <;> (try intro h) <;> (try intro h') <;> (try simp only [goS] at *) <;> (try simp only [rdi, rd2i, Int.toNat_natCast, Nat.add_zero] at *) <;> (try simp only [rng]) <;> (first | assumption | omega)) | (exact due_app0 (by omega)) | (exact due_app (by omega)) | (intros; simp; done) | (intros; simp; omega)))
      | with_reducible refine Due.mk ?_
      | omega)
  obtain ⟨hi, hp⟩ := hi
  rcases Nat.lt_or_ge i l.length with hi2 | hi2
  · by_cases hn : l.getD i 0 < 0 ∨ n ≤ l.getD i 0
    · have e : dsF l n i = 3 := by unfold dsF; rw [if_pos hn]
      have ef : dsE l n = 3 := by unfold dsE; rw [fstE_at hp (by rw [e]; omega) hi2, e]
      repeat' (first
        | refine GZp_i_2i ?_ ?_ ?_ ?_ ?_ ?_ ?_ ?_
        | with_reducible first | exact BzZq.mk | refine Tw.ret ?_ | refine ImZq.i fun h => ?_ | refine IkZq.i fun hk => ?_)
      all_goals exact ⟨rfl, by rw [ef], rfl⟩
    · repeat' (first
        | refine GZp_i_2i ?_ ?_ ?_ ?_ ?_ ?_ ?_ ?_
        | with_reducible first | exact BzZq.mk | refine Tw.ret ?_ | refine ImZq.i fun h => ?_ | refine IkZq.i fun hk => ?_)
      refine Tw.loopK [0, 1, 5, 6, 9, 10, 11, 25, 26] (fun j : Nat => j ≤ i ∧ ∀ k, k < j → l.getD k 0 ≠ l.getD i 0) (fun j => i - j) (fun j => [(27, .int .i64 j)]) (fun _ => []) ⟨0, ⟨by omega, fun k hk => by omega⟩, TWk.fcanon env [] (by rfl) ?_⟩ (fun j hj => ?_)
      · repeat' (first
          | with_reducible first | exact Conj.nil | refine Conj.cons rfl ?_ | refine Conj.same ?_ | refine Conj.ask ?_ ?_
          | ((with_reducible refine Due.mk ?_); (first | with_reducible rfl | omega | assumption | decide | ((try simp only [goS] at *) <;> (try intro h) <;> (try intro h') <;> (try simp only [goS] at *) <;> (try simp only [rdi, rd2i, Int.toNat_natCast, Nat.add_zero] at *) <;> (try simp only [rng]) <;> (first | assumption | omega)) | (exact due_app0 (by omega)) | (exact due_app (by omega)) | (intros; simp; done) | (intros; simp; omega)))
          | with_reducible refine Due.mk ?_
          | omega)
      obtain ⟨hj, hq⟩ := hj
      have et : (List.take i l).length = i := by rw [List.length_take]; omega
      rcases Nat.lt_or_ge j i with hj2 | hj2
      · have eg : (List.take i l).getD j 0 = l.getD j 0 := by rw [List.getD_eq_getElem?_getD, List.getElem?_take, if_pos hj2, ← List.getD_eq_getElem?_getD]
        repeat' (first
          | refine GZy_i_2i et ?_ ?_ ?_ ?_ ?_ ?_ ?_ ?_
          | with_reducible first | exact BzZq.mk | refine Tw.ret ?_ | refine ImZq.i fun h => ?_ | refine IkZq.i fun hk => ?_)
        · have e : dsF l n i = 7 := by unfold dsF; rw [if_neg hn, if_pos ⟨j, hj2, by rw [← eg]; exact h⟩]
          exact ⟨rfl, by unfold dsE; rw [fstE_at hp (by rw [e]; omega) hi2, e], rfl⟩
        · refine ⟨j + 1, ⟨by omega, fun k hk => ?_⟩, by omega, TWk.fcanon env [] (by rfl) ?_⟩
          · by_cases e : k = j
            · subst e; rw [← eg]; exact h
            · exact hq k (by omega)
          · repeat' (first
              | refine GZ_i_2i ?_ ?_ ?_ ?_ ?_ ?_ ?_ ?_
              | with_reducible first | exact BzZq.mk | refine Tw.ret ?_ | refine ImZq.i fun h => ?_ | refine IkZq.i fun hk => ?_)
      · obtain rfl : j = i := by omega
        repeat' (first
          | refine GZy_i_2i et ?_ ?_ ?_ ?_ ?_ ?_ ?_ ?_
          | with_reducible first | exact BzZq.mk | refine Tw.ret ?_ | refine ImZq.i fun h => ?_ | refine IkZq.i fun hk => ?_)
        refine ⟨j + 1, ⟨by omega, fun k hk => ?_⟩, by omega, TWk.fcanon env [] (by rfl) ?_⟩
        · by_cases e : k = j
          · subst e
            unfold dsF
            rw [if_neg hn, if_neg]
            rintro ⟨x, hx, hx2⟩
            exact hq x hx hx2
          · exact hp k (by omega)
        · repeat' (first
            | refine GZ_i_2i ?_ ?_ ?_ ?_ ?_ ?_ ?_ ?_
            | with_reducible first | exact BzZq.mk | refine Tw.ret ?_ | refine ImZq.i fun h => ?_ | refine IkZq.i fun hk => ?_)
  · obtain rfl : i = l.length := by omega
    repeat' (first
      | refine GZp_i_2i ?_ ?_ ?_ ?_ ?_ ?_ ?_ ?_
      | with_reducible first | exact BzZq.mk | refine Tw.ret ?_ | refine ImZq.i fun h => ?_ | refine IkZq.i fun hk => ?_)
    exact ⟨rfl, by rw [show dsE l n = 0 from fstE_zero.2 hp], rfl⟩

noncomputable def spF (l : List Sp) (i : Nat) : Int := if spEs (l.getD i dS) ≠ 0 then spEs (l.getD i dS) else (@ite _ (∃ j, j < i ∧ (l.getD j dS).1 = (l.getD i dS).1) (Classical.propDecidable _) 7 0)
noncomputable def spLE (l : List Sp) : Int := if 40 < l.length then 2 else fstE (spF l) l.length
theorem spLE_ok {l : List Sp} (h : spLE l = 0) : libOk l := by
  unfold spLE at h
  split at h
  · omega
  · refine ⟨by omega, fun i hi => ?_⟩
    have h1 := fstE_zero.1 h i hi
    unfold spF at h1
    split at h1
    · rename_i h2; exact absurd h1 h2
    · rename_i h2
      refine ⟨by simpa using h2, fun j hj e => ?_⟩
      rw [if_pos ⟨j, hj, e⟩] at h1
      omega
theorem spCheckF_c (l : List Sp) (hl : Due (l.length ≤ 9223372036854775807)) (wl : Due (∀ y ∈ l, Ws6iL2iJLiJ y)) : TC R Try.prog spot_Check_f [.lst Es6iL2iJLiJ l] [] (fun v X => v = .int .i64 (spLE l) ∧ X = []) := by
  dsimp only [Due] at hl wl
  refine tc0 env spot_Check_s (by rfl) ?_
  dsimp only [spot_Check_c]
  by_cases h40 : 40 < l.length
  · repeat' (first
      | refine GZp_i_2i ?_ ?_ ?_ ?_ ?_ ?_ ?_ ?_
      | with_reducible first | exact BzZq.mk | refine Tw.ret ?_ | refine ImZq.i fun h => ?_ | refine IkZq.i fun hk => ?_)
    exact ⟨rfl, by unfold spLE; rw [if_pos h40], rfl⟩
  have eL : spLE l = fstE (spF l) l.length := by unfold spLE; rw [if_neg h40]
  repeat' (first
    | refine GZp_i_2i ?_ ?_ ?_ ?_ ?_ ?_ ?_ ?_
    | with_reducible first | exact BzZq.mk | refine Tw.ret ?_ | refine ImZq.i fun h => ?_ | refine IkZq.i fun hk => ?_)
  refine Tw.loopK [0, 10] (fun i : Nat => i ≤ l.length ∧ ∀ k, k < i → spF l k = 0) (fun i => l.length - i) (fun i => [(11, .int .i64 i)]) (fun _ => []) ⟨0, ⟨by omega, fun k hk => by omega⟩, TWk.fcanon env [] (by rfl) ?_⟩ (fun i hi => ?_)
  · repeat' (first
      | with_reducible first | exact Conj.nil | refine Conj.cons rfl ?_ | refine Conj.same ?_ | refine Conj.ask ?_ ?_
      | ((with_reducible refine Due.mk ?_); (first | with_reducible rfl | omega | assumption | decide | ((try simp only [goS] at *) <;> (try intro h) <;> (try intro h') <;> (try simp only [goS] at *) <;> (try simp only [rdi, rd2i, Int.toNat_natCast, Nat.add_zero] at *) <;> (try simp only [rng]) <;> (first | assumption | omega)) | (exact due_app0 (by omega)) | (exact due_app (by omega)) | (intros; simp; done) | (intros; simp; omega)))
      | with_reducible refine Due.mk ?_
      | omega)
  obtain ⟨hi, hp⟩ := hi
  rcases Nat.lt_or_ge i l.length with hi | hi
  · have e1 := oneS_c (l.getD i dS) (wl _ (getD_mem hi))
    by_cases h1 : spEs (l.getD i dS) = 0
    · rw [h1] at e1
      repeat' (first
        | ((with_reducible refine TOps.any ?_); refine TOps.callV env (by rfl) (by rfl) (by rfl) (e1) ?_)
        | ((with_reducible refine TOps.any ?_); refine TOps.callE env (by rfl) (by rfl) (by rfl) ?_ (e1) (by rfl) ?_)
        | refine GZp_i_2i ?_ ?_ ?_ ?_ ?_ ?_ ?_ ?_
        | with_reducible first | exact BzZq.mk | refine Tw.ret ?_ | refine ImZq.i fun h => ?_ | refine IkZq.i fun hk => ?_)
      refine Tw.loopK [0, 10, 11, 3, 21] (fun j : Nat => j ≤ i ∧ ∀ k, k < j → (l.getD k dS).1 ≠ (l.getD i dS).1) (fun j => i - j) (fun j => [(22, .int .i64 j)]) (fun _ => []) ⟨0, ⟨by omega, fun k hk => by omega⟩, TWk.fcanon env [] (by rfl) ?_⟩ (fun j hj => ?_)
      · repeat' (first
          | with_reducible first | exact Conj.nil | refine Conj.cons rfl ?_ | refine Conj.same ?_ | refine Conj.ask ?_ ?_
          | ((with_reducible refine Due.mk ?_); (first | with_reducible rfl | omega | assumption | decide | ((try simp only [goS] at *) <;> (try intro h) <;> (try intro h') <;> (try simp only [goS] at *) <;> (try simp only [rdi, rd2i, Int.toNat_natCast, Nat.add_zero] at *) <;> (try simp only [rng]) <;> (first | assumption | omega)) | (exact due_app0 (by omega)) | (exact due_app (by omega)) | (intros; simp; done) | (intros; simp; omega)))
          | with_reducible refine Due.mk ?_
          | omega)
      obtain ⟨hj, hq⟩ := hj
      repeat' (first
        | refine GZp_i_2i ?_ ?_ ?_ ?_ ?_ ?_ ?_ ?_
        | with_reducible first | exact BzZq.mk | refine Tw.ret ?_ | refine ImZq.i fun h => ?_ | refine IkZq.i fun hk => ?_)
      · have e : spF l i = 7 := by unfold spF; rw [if_neg (by simpa using h1), if_pos ⟨j, by omega, h⟩]
        exact ⟨rfl, by rw [eL, fstE_at hp (by rw [e]; omega) hi, e], rfl⟩
      · refine ⟨j + 1, ⟨by omega, fun k hk => ?_⟩, by omega, TWk.fcanon env [] (by rfl) ?_⟩
        · by_cases e : k = j
          · subst e; exact h
          · exact hq k (by omega)
        · repeat' (first
            | refine GZ_i_2i ?_ ?_ ?_ ?_ ?_ ?_ ?_ ?_
            | with_reducible first | exact BzZq.mk | refine Tw.ret ?_ | refine ImZq.i fun h => ?_ | refine IkZq.i fun hk => ?_)
      · obtain rfl : j = i := by omega
        refine ⟨j + 1, ⟨by omega, fun k hk => ?_⟩, by omega, TWk.fcanon env [] (by rfl) ?_⟩
        · by_cases e : k = j
          · subst e
            unfold spF
            rw [if_neg (by simpa using h1), if_neg]
            rintro ⟨x, hx, hx2⟩
            exact hq x hx hx2
          · exact hp k (by omega)
        · repeat' (first
            | refine GZ_i_2i ?_ ?_ ?_ ?_ ?_ ?_ ?_ ?_
            | with_reducible first | exact BzZq.mk | refine Tw.ret ?_ | refine ImZq.i fun h => ?_ | refine IkZq.i fun hk => ?_)
    · have e : spF l i = spEs (l.getD i dS) := by unfold spF; rw [if_pos h1]
      repeat' (first
        | ((with_reducible refine TOps.any ?_); refine TOps.callV env (by rfl) (by rfl) (by rfl) (e1) ?_)
        | ((with_reducible refine TOps.any ?_); refine TOps.callE env (by rfl) (by rfl) (by rfl) ?_ (e1) (by rfl) ?_)
        | refine GZp_i_2i ?_ ?_ ?_ ?_ ?_ ?_ ?_ ?_
        | with_reducible first | exact BzZq.mk | refine Tw.ret ?_ | refine ImZq.i fun h => ?_ | refine IkZq.i fun hk => ?_)
      exact ⟨rfl, by rw [eL, fstE_at hp (by rw [e]; exact h1) hi, e], rfl⟩
  · repeat' (first
      | refine GZp_i_2i ?_ ?_ ?_ ?_ ?_ ?_ ?_ ?_
      | with_reducible first | exact BzZq.mk | refine Tw.ret ?_ | refine ImZq.i fun h => ?_ | refine IkZq.i fun hk => ?_)
    exact ⟨rfl, by rw [eL, fstE_zero.2 fun k hk => hp k (by omega)], rfl⟩

noncomputable def tbE (a b c : Int) (vals : List Int) (i o : Int) : Int := if dlE a b c vals ≠ 0 then dlE a b c vals else if a ≠ i ∨ b ≠ o then 4 else 0
theorem table_c (a b c : Int) (vals : List Int) (i o : Int) (hl : Due (vals.length ≤ 9223372036854775807)) : TC R Try.prog condition_table_f [.agg [.int .i64 a, .int .i64 b, .int .i64 c, .lst Ei vals], .int .i64 i, .int .i64 o] [] (fun v X => v = .int .i64 (tbE a b c vals i o) ∧ X = []) := by
  have dc := dlCheck_c a b c vals hl
  refine tc0 env condition_table_s (by rfl) ?_
  dsimp only [condition_table_c]
  by_cases h0 : dlE a b c vals = 0
  · rw [h0] at dc
    by_cases h1 : a ≠ i ∨ b ≠ o
    · have e : tbE a b c vals i o = 4 := by unfold tbE; rw [if_neg (by simpa using h0), if_pos h1]
      repeat' (first
        | ((with_reducible refine TOps.any ?_); refine TOps.callV env (by rfl) (by rfl) (by rfl) (dc) ?_)
        | refine GZp_i_2i ?_ ?_ ?_ ?_ ?_ ?_ ?_ ?_
        | with_reducible first | exact BzZq.mk | refine Tw.ret ?_ | refine ImZq.i fun h => ?_ | refine IkZq.i fun hk => ?_)
      all_goals exact ⟨rfl, by rw [e], rfl⟩
    · have e : tbE a b c vals i o = 0 := by unfold tbE; rw [if_neg (by simpa using h0), if_neg h1]
      repeat' (first
        | ((with_reducible refine TOps.any ?_); refine TOps.callV env (by rfl) (by rfl) (by rfl) (dc) ?_)
        | refine GZp_i_2i ?_ ?_ ?_ ?_ ?_ ?_ ?_ ?_
        | with_reducible first | exact BzZq.mk | refine Tw.ret ?_ | refine ImZq.i fun h => ?_ | refine IkZq.i fun hk => ?_)
      all_goals exact ⟨rfl, by rw [e], rfl⟩
  · have e : tbE a b c vals i o = dlE a b c vals := by unfold tbE; rw [if_pos h0]
    repeat' (first
      | ((with_reducible refine TOps.any ?_); refine TOps.callV env (by rfl) (by rfl) (by rfl) (dc) ?_)
      | refine GZp_i_2i ?_ ?_ ?_ ?_ ?_ ?_ ?_ ?_
      | with_reducible first | exact BzZq.mk | refine Tw.ret ?_ | refine ImZq.i fun h => ?_ | refine IkZq.i fun hk => ?_)
    exact ⟨rfl, by rw [e], rfl⟩
end Go.Proofs.Ytogbkhopanaoiaa
