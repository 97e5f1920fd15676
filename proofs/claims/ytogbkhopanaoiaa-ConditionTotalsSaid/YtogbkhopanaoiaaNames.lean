/- Names. -/
import Derived.Test.YtogbkhopanaoiaaGrid1
import Derived.Test.YtogbkhopanaoiaaXConditionTotals0
import Derived.Test.YtogbkhopanaoiaaGo
namespace Go.Proofs.Ytogbkhopanaoiaa
open Go Go.Lite
set_option linter.unusedVariables false
set_option linter.unusedSimpArgs false
set_option maxRecDepth 100000
set_option maxHeartbeats 4000000
-- @simp rdi

abbrev dB : ByteArray := R.d Es
def nameCh (x : Int) : Prop := (97 ≤ x ∧ x ≤ 122) ∨ (48 ≤ x ∧ x ≤ 57) ∨ x = 45
def nameOk (s : ByteArray) : Prop := 1 ≤ s.size ∧ s.size ≤ 16 ∧ (97 ≤ sat s 0 ∧ sat s 0 ≤ 122) ∧ ∀ j, j < s.size → nameCh (sat s j)
open Classical in
noncomputable def isName (s : ByteArray) : Bool := decide (nameOk s)
theorem isName_c (s : ByteArray) (hs : Due (s.size ≤ 9223372036854775807)) : TC R Try.prog profile_IsName_f [.str s] [] (fun v X => v = .bool (isName s) ∧ X = []) := by
  dsimp only [Due] at hs
  have yes : nameOk s → true = isName s := fun h => by unfold isName; simp [h]
  have no : ¬ nameOk s → false = isName s := fun h => by unfold isName; simp [h]
  refine tc0 env profile_IsName_s (by rfl) ?_
  dsimp only [profile_IsName_c]
  by_cases hh : 1 ≤ s.size ∧ s.size ≤ 16 ∧ (97 ≤ sat s 0 ∧ sat s 0 ≤ 122)
  · repeat' (first
      | refine GZp_i ?_ ?_ ?_ ?_ ?_ ?_ ?_ ?_
      | with_reducible first | exact BzZq.mk | refine Tw.ret ?_ | refine ImZq.i fun h => ?_ | refine IkZq.i fun hk => ?_)
    refine Tw.loopK [0, 24] (fun i : Nat => i ≤ s.size ∧ ∀ j, j < i → nameCh (sat s j)) (fun i => s.size - i) (fun i => [(25, .int .i64 i)]) (fun _ => []) ⟨0, ⟨by omega, fun j hj => by omega⟩, TWk.fcanon env [] (by rfl) ?_⟩ (fun i hi => ?_)
    · repeat' (first
        | with_reducible first | exact Conj.nil | refine Conj.cons rfl ?_ | refine Conj.same ?_ | refine Conj.ask ?_ ?_
        | ((with_reducible refine Due.mk ?_); (first | with_reducible rfl | omega | assumption | decide | ((try simp only [goS] at *) <;> (try intro h) <;> (try intro h') <;> (try simp only [goS] at *) <;> (try simp only [rdi, Int.toNat_natCast, Nat.add_zero] at *) <;> (try simp only [rng]) <;> (first | assumption | omega)) | (exact due_app0 (by omega)) | (exact due_app (by omega)) | (intros; simp; done) | (intros; simp; omega)))
        | with_reducible refine Due.mk ?_
        | omega)
    repeat' (first
      | refine GZp_i ?_ ?_ ?_ ?_ ?_ ?_ ?_ ?_
      | with_reducible first | exact BzZq.mk | refine Tw.ret ?_ | refine ImZq.i fun h => ?_ | refine IkZq.i fun hk => ?_)
    · refine ⟨rfl, congrArg TV.bool (no fun hk => ?_), rfl⟩
      have := hk.2.2.2 i (by omega)
      unfold nameCh at this
      omega
    · refine ⟨i + 1, ⟨by omega, fun j hj => ?_⟩, by omega, TWk.fcanon env [] (by rfl) ?_⟩
      · by_cases e : j = i
        · subst e; unfold nameCh; omega
        · exact hi.2 j (by omega)
      · repeat' (first
          | refine GZ_i ?_ ?_ ?_ ?_ ?_ ?_ ?_ ?_
          | with_reducible first | exact BzZq.mk | refine Tw.ret ?_ | refine ImZq.i fun h => ?_ | refine IkZq.i fun hk => ?_)
    · exact ⟨rfl, congrArg TV.bool (yes ⟨hh.1, hh.2.1, hh.2.2, fun j hj => hi.2 j (by omega)⟩), rfl⟩
  · have hn : false = isName s := no fun hk => hh ⟨hk.1, hk.2.1, hk.2.2.1⟩
    repeat' (first
      | refine GZp_i ?_ ?_ ?_ ?_ ?_ ?_ ?_ ?_
      | with_reducible first | exact BzZq.mk | refine Tw.ret ?_ | refine ImZq.i fun h => ?_ | refine IkZq.i fun hk => ?_)
    exact ⟨rfl, congrArg TV.bool hn, rfl⟩
noncomputable def nmE (l : List ByteArray) (i : Nat) : Int := if isName (l.getD i dB) = true then (@ite _ (∃ j, j < i ∧ l.getD j dB = l.getD i dB) (Classical.propDecidable _) 7 0) else 6
noncomputable def namesE (l : List ByteArray) : Int := fstE (nmE l) l.length
theorem names_c (l : List ByteArray) (hl : Due (l.length ≤ 9223372036854775807)) (wl : Due (∀ y ∈ l, Ws y)) : TC R Try.prog profile_Names_f [.lst Es l] [] (fun v X => v = .int .i64 (namesE l) ∧ X = []) := by
  dsimp only [Due] at hl wl
  refine tc0 env profile_Names_s (by rfl) ?_
  dsimp only [profile_Names_c]
  repeat' (first
    | refine GZ_i ?_ ?_ ?_ ?_ ?_ ?_ ?_ ?_
    | with_reducible first | exact BzZq.mk | refine Tw.ret ?_ | refine ImZq.i fun h => ?_ | refine IkZq.i fun hk => ?_)
  refine Tw.loopK [0, 7, 8] (fun i : Nat => i ≤ l.length ∧ ∀ k, k < i → nmE l k = 0) (fun i => l.length - i) (fun i => [(9, .int .i64 i)]) (fun _ => []) ⟨0, ⟨by omega, fun k hk => by omega⟩, TWk.fcanon env [] (by rfl) ?_⟩ (fun i hi => ?_)
  · repeat' (first
      | with_reducible first | exact Conj.nil | refine Conj.cons rfl ?_ | refine Conj.same ?_ | refine Conj.ask ?_ ?_
      | ((with_reducible refine Due.mk ?_); (first | with_reducible rfl | omega | assumption | decide | ((try simp only [goS] at *) <;> (try intro h) <;> (try intro h') <;> (try simp only [goS] at *) <;> (try simp only [rdi, Int.toNat_natCast, Nat.add_zero] at *) <;> (try simp only [rng]) <;> (first | assumption | omega)) | (exact due_app0 (by omega)) | (exact due_app (by omega)) | (intros; simp; done) | (intros; simp; omega)))
      | with_reducible refine Due.mk ?_
      | omega)
  obtain ⟨hi, hp⟩ := hi
  rcases Nat.lt_or_ge i l.length with hi2 | hi2
  · have ic := isName_c (l.getD i dB) (wl _ (getD_mem hi2))
    cases hn : isName (l.getD i dB)
    · rw [hn] at ic
      have e : nmE l i = 6 := by unfold nmE; rw [if_neg (by rw [hn]; simp)]
      have ef : namesE l = 6 := by unfold namesE; rw [fstE_at hp (by rw [e]; omega) hi2, e]
      repeat' (first
        | ((with_reducible refine TOps.any ?_); refine TOps.callV env (by rfl) (by rfl) (by rfl) (ic) ?_)
        | refine GZp_i ?_ ?_ ?_ ?_ ?_ ?_ ?_ ?_
        | with_reducible first | exact BzZq.mk | refine Tw.ret ?_ | refine ImZq.i fun h => ?_ | refine IkZq.i fun hk => ?_)
      exact ⟨rfl, by rw [ef], rfl⟩
    · rw [hn] at ic
      repeat' (first
        | ((with_reducible refine TOps.any ?_); refine TOps.callV env (by rfl) (by rfl) (by rfl) (ic) ?_)
        | refine GZp_i ?_ ?_ ?_ ?_ ?_ ?_ ?_ ?_
        | with_reducible first | exact BzZq.mk | refine Tw.ret ?_ | refine ImZq.i fun h => ?_ | refine IkZq.i fun hk => ?_)
      refine Tw.loopK [0, 3, 4, 7, 8, 9, 19, 20] (fun j : Nat => j ≤ i ∧ ∀ k, k < j → l.getD k dB ≠ l.getD i dB) (fun j => i - j) (fun j => [(21, .int .i64 j)]) (fun _ => []) ⟨0, ⟨by omega, fun k hk => by omega⟩, TWk.fcanon env [] (by rfl) ?_⟩ (fun j hj => ?_)
      · repeat' (first
          | with_reducible first | exact Conj.nil | refine Conj.cons rfl ?_ | refine Conj.same ?_ | refine Conj.ask ?_ ?_
          | ((with_reducible refine Due.mk ?_); (first | with_reducible rfl | omega | assumption | decide | ((try simp only [goS] at *) <;> (try intro h) <;> (try intro h') <;> (try simp only [goS] at *) <;> (try simp only [rdi, Int.toNat_natCast, Nat.add_zero] at *) <;> (try simp only [rng]) <;> (first | assumption | omega)) | (exact due_app0 (by omega)) | (exact due_app (by omega)) | (intros; simp; done) | (intros; simp; omega)))
          | with_reducible refine Due.mk ?_
          | omega)
      obtain ⟨hj, hq⟩ := hj
      have et : (List.take i l).length = i := by rw [List.length_take]; omega
      rcases Nat.lt_or_ge j i with hj2 | hj2
      · have eg : (List.take i l).getD j dB = l.getD j dB := by rw [List.getD_eq_getElem?_getD, List.getElem?_take, if_pos hj2, ← List.getD_eq_getElem?_getD]
        repeat' (first
          | refine GZy_i et ?_ ?_ ?_ ?_ ?_ ?_ ?_ ?_
          | with_reducible first | exact BzZq.mk | refine Tw.ret ?_ | refine ImZq.i fun h => ?_ | refine IkZq.i fun hk => ?_)
        · have e : nmE l i = 7 := by unfold nmE; rw [if_pos hn, if_pos ⟨j, hj2, by rw [← eg]; exact h.symm⟩]
          exact ⟨rfl, by unfold namesE; rw [fstE_at hp (by rw [e]; omega) hi2, e], rfl⟩
        · refine ⟨j + 1, ⟨by omega, fun k hk => ?_⟩, by omega, TWk.fcanon env [] (by rfl) ?_⟩
          · by_cases e : k = j
            · subst e; rw [← eg]; exact fun e2 => h e2.symm
            · exact hq k (by omega)
          · repeat' (first
              | refine GZ_i ?_ ?_ ?_ ?_ ?_ ?_ ?_ ?_
              | with_reducible first | exact BzZq.mk | refine Tw.ret ?_ | refine ImZq.i fun h => ?_ | refine IkZq.i fun hk => ?_)
      · obtain rfl : j = i := by omega
        repeat' (first
          | refine GZy_i et ?_ ?_ ?_ ?_ ?_ ?_ ?_ ?_
          | with_reducible first | exact BzZq.mk | refine Tw.ret ?_ | refine ImZq.i fun h => ?_ | refine IkZq.i fun hk => ?_)
        refine ⟨j + 1, ⟨by omega, fun k hk => ?_⟩, by omega, TWk.fcanon env [] (by rfl) ?_⟩
        · by_cases e : k = j
          · subst e
            unfold nmE
            rw [if_pos hn, if_neg]
            rintro ⟨x, hx, hx2⟩
            exact hq x hx hx2
          · exact hp k (by omega)
        · repeat' (first
            | refine GZ_i ?_ ?_ ?_ ?_ ?_ ?_ ?_ ?_
            | with_reducible first | exact BzZq.mk | refine Tw.ret ?_ | refine ImZq.i fun h => ?_ | refine IkZq.i fun hk => ?_)
  · obtain rfl : i = l.length := by omega
    repeat' (first
      | refine GZp_i ?_ ?_ ?_ ?_ ?_ ?_ ?_ ?_
      | with_reducible first | exact BzZq.mk | refine Tw.ret ?_ | refine ImZq.i fun h => ?_ | refine IkZq.i fun hk => ?_)
    exact ⟨rfl, by rw [show namesE l = 0 from fstE_zero.2 hp], rfl⟩
end Go.Proofs.Ytogbkhopanaoiaa
