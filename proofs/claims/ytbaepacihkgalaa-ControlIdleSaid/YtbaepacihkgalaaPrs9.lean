/- Presses: a jam, and a wash of half the film. -/
import Derived.Test.YtbaepacihkgalaaPrs8
import Derived.Test.YtbaepacihkgalaaGo
namespace Go.Proofs.Ytbaepacihkgalaa
open Go Go.Lite
set_option linter.unusedVariables false
set_option linter.unusedSimpArgs false
set_option maxRecDepth 100000
set_option maxHeartbeats 100000000
-- @simp rdi rd6i rdLiJ

def ev3_c_P (n8 : Nat) : Prop := ∀ (S : Su) (u : Nat) (p : Ps) (s x : Int) (hu : 1 ≤ u ∧ u ≤ 8) (hn : Due (0 ≤ p.n ∧ p.n ≤ 4000)) (hb : evS (s, 3, 0, 0, x, 0) p.n u S.Z = 0) (e8 : u = n8), TC R Try.prog __press_Press__Event_f [.ptr 0 0, .agg [.int .i64 s, .int .i64 3, .int .i64 0, .int .i64 0, .int .i64 x, .int .i64 0]] (prR S u p) (fun v X => v = .int .i64 0 ∧ X = prR S u (evP S.Z p (s, 3, 0, 0, x, 0)))
theorem ev3_c_A {n8 : Nat} (h8 : ev3_c_P n8 := by
    intro S u p s x hu hn hb e8
    dsimp only [Due] at hn
    have ec := event_c s 3 0 0 x 0 u S.Z
    obtain ⟨h2, h1⟩ := evS_ok hb
    rw [h1] at ec
    clear hb h1
    refine prTC (fun _ => rfl) (tc env __press_Press__Event_s (by rfl) ?_)
    dsimp only [__press_Press__Event_c]
    subst e8
    simp only [prR, prC, unsC, unC, unR, List.cons_append, List.nil_append, Nat.reduceAdd, Nat.reduceMul]
    repeat' (first
      | ((with_reducible refine TDr.any ?_); refine TDr.callE env (by first | rfl | assumption) (by rfl) (by rfl) ?_ (ec) (by rfl) (by rfl) ?_)
      | refine GZp_i_6i_LiJ ?_ ?_ ?_ ?_ ?_ ?_ ?_ ?_
      | with_reducible first | exact BzZq.mk | refine Tw.ret ?_ | refine ImZq.i fun h => ?_ | refine IkZq.i fun hk => ?_)
    exact ⟨rfl, rfl⟩) : ev3_c_P n8 := h8
theorem ev3_c_1 : ev3_c_P 1 := ev3_c_A
theorem ev3_c_2 : ev3_c_P 2 := ev3_c_A
theorem ev3_c_3 : ev3_c_P 3 := ev3_c_A
theorem ev3_c_4 : ev3_c_P 4 := ev3_c_A
theorem ev3_c_5 : ev3_c_P 5 := ev3_c_A
theorem ev3_c_6 : ev3_c_P 6 := ev3_c_A
theorem ev3_c_7 : ev3_c_P 7 := ev3_c_A
theorem ev3_c_8 : ev3_c_P 8 := ev3_c_A
theorem ev3_c (S : Su) (u : Nat) (p : Ps) (s x : Int) (hu : 1 ≤ u ∧ u ≤ 8) (hn : Due (0 ≤ p.n ∧ p.n ≤ 4000)) (hb : evS (s, 3, 0, 0, x, 0) p.n u S.Z = 0) : TC R Try.prog __press_Press__Event_f [.ptr 0 0, .agg [.int .i64 s, .int .i64 3, .int .i64 0, .int .i64 0, .int .i64 x, .int .i64 0]] (prR S u p) (fun v X => v = .int .i64 0 ∧ X = prR S u (evP S.Z p (s, 3, 0, 0, x, 0))) := by
  rcases eight (u := u) (hu) with e8 | e8 | e8 | e8 | e8 | e8 | e8 | e8
  · exact ev3_c_1 S u p s x hu hn hb e8
  · exact ev3_c_2 S u p s x hu hn hb e8
  · exact ev3_c_3 S u p s x hu hn hb e8
  · exact ev3_c_4 S u p s x hu hn hb e8
  · exact ev3_c_5 S u p s x hu hn hb e8
  · exact ev3_c_6 S u p s x hu hn hb e8
  · exact ev3_c_7 S u p s x hu hn hb e8
  · exact ev3_c_8 S u p s x hu hn hb e8
/-- A film whose first z zones are halved. -/
def hz (z : Nat) (l : List Int) : List Int := (l.take z).map (fun f => quo f 2) ++ l.drop z
theorem hz_len {z : Nat} {l : List Int} : (hz z l).length = l.length := by simp [hz]; omega
theorem hz_get {z : Nat} {l : List Int} (h : z < l.length) : (hz z l).getD z 0 = l.getD z 0 := by
  have e : ((l.take z).map fun f => quo f 2).length = z := by simp; omega
  rw [hz, List.getD_eq_getElem?_getD, List.getElem?_append_right (by omega), e, Nat.sub_self, List.getElem?_drop, List.getD_eq_getElem?_getD]; rfl
theorem hz_all {z : Nat} {l : List Int} (h : l.length ≤ z) : hz z l = l.map fun f => quo f 2 := by simp [hz, List.take_of_length_le h, List.drop_of_length_le h]
theorem hz_set {z : Nat} {l : List Int} (h : z < l.length) : (hz z l).set z (quo ((hz z l).getD z 0) 2) = hz (z + 1) l := by
  rw [hz_get h]
  have e : ((l.take z).map fun f => quo f 2).length = z := by simp; omega
  have d : l.drop z = l.getD z 0 :: l.drop (z + 1) := by
    rw [List.getD_eq_getElem?_getD, List.getElem?_eq_getElem h]; exact List.drop_eq_getElem_cons h
  have t : l.take (z + 1) = l.take z ++ [l.getD z 0] := by
    rw [List.getD_eq_getElem?_getD, List.getElem?_eq_getElem h, List.take_add_one, List.getElem?_eq_getElem h]; rfl
  rw [hz, d, List.set_append_right _ _ (by omega), e, Nat.sub_self, List.set_cons_zero, hz, t, List.map_append, List.append_assoc]
  rfl
/-- The units while their films are halved: those before k, and k up to place z. -/
def hlf (us : Nat → Un) (k z : Nat) (j : Nat) : Un := { us j with fl := if j < k then (us j).fl.map fun f => quo f 2 else if j = k then hz z (us j).fl else (us j).fl }
theorem hlf_next {us : Nat → Un} {k z : Nat} (h : (us k).fl.length ≤ z) : hlf us k z = hlf us (k + 1) 0 := by
  funext j
  unfold hlf
  by_cases h1 : j < k
  · rw [if_pos h1, if_pos (by omega)]
  · rw [if_neg h1]
    by_cases h2 : j = k
    · subst h2
      rw [if_pos rfl, if_pos (by omega), hz_all h]
    · rw [if_neg h2, if_neg (by omega)]
      by_cases h3 : j = k + 1
      · rw [if_pos h3]; rfl
      · rw [if_neg h3]
def ev6_c_P (n8 : Nat) : Prop := ∀ (S : Su) (u : Nat) (p : Ps) (s : Int) (hu : 1 ≤ u ∧ u ≤ 8) (hn : Due (0 ≤ p.n ∧ p.n ≤ 4000)) (hb : evS (s, 6, 0, 0, 0, 0) p.n u S.Z = 0) (hZ : Due (S.Z ≤ 16)) (ok : ∀ i, i < u → (p.us i).fl.length = S.Z ∧ ∀ z, z < S.Z → 0 ≤ (p.us i).fl.getD z 0 ∧ (p.us i).fl.getD z 0 ≤ 24000) (e8 : u = n8), TC R Try.prog __press_Press__Event_f [.ptr 0 0, .agg [.int .i64 s, .int .i64 6, .int .i64 0, .int .i64 0, .int .i64 0, .int .i64 0]] (prR S u p) (fun v X => v = .int .i64 0 ∧ X = prR S u (evP S.Z p (s, 6, 0, 0, 0, 0)))
theorem ev6_c_A {n8 : Nat} (h8 : ev6_c_P n8 := by
    intro S u p s hu hn hb hZ ok e8
    dsimp only [Due] at hn hZ
    have ec := event_c s 6 0 0 0 0 u S.Z
    obtain ⟨h2, h1⟩ := evS_ok hb
    rw [h1] at ec
    clear hb h1
    refine prTC (fun _ => rfl) (tc env __press_Press__Event_s (by rfl) ?_)
    dsimp only [__press_Press__Event_c]
    obtain ⟨hp, ehp⟩ : ∃ hp : Ps → List (Option (TRow A)), hp = prR S u := ⟨_, rfl⟩
    obtain ⟨w, hw⟩ : ∃ w, w = u := ⟨_, rfl⟩
    subst e8
    refine Tw.hE (by simp only [prR, prC, unsC, unC, unR, List.cons_append, List.nil_append, Nat.reduceAdd, Nat.reduceMul]; rfl) ?_
    repeat' (first
      | ((with_reducible refine TDr.any ?_); refine TDr.callE env (by first | rfl | assumption) (by rfl) (by rfl) ?_ (ec) (by rfl) (by rfl) ?_)
      | refine GZp_i_6i_LiJ ?_ ?_ ?_ ?_ ?_ ?_ ?_ ?_
      | with_reducible first | exact BzZq.mk | refine Tw.ret ?_ | refine ImZq.i fun h => ?_ | refine IkZq.i fun hk => ?_)
    refine Tw.loopK [0] (fun i : Nat => i ≤ w) (fun i => w - i) (fun i => [(110, .int .i64 i), (109, .int .i64 w)]) (fun i => hp { p with us := hlf p.us i 0 }) ⟨0, by omega, ?_⟩ (fun i hi => ?_)
    · refine TWk.hE (by simp only [ehp, prR, prC, unsC, unC, unR, List.cons_append, List.nil_append, Nat.reduceAdd, Nat.reduceMul, hlf, Nat.reduceLT, Nat.reduceEqDiff, Nat.lt_irrefl, reduceIte]; rfl) (TWk.fcanonR env 0 (by rfl) ?_)
      repeat' (first
        | refine GZx_i_6i_LiJ hw ?_ ?_ ?_ ?_ ?_ ?_ ?_ ?_
        | with_reducible first | exact BzZq.mk | refine Tw.ret ?_ | refine ImZq.i fun h => ?_ | refine IkZq.i fun hk => ?_)
    rcases Nat.lt_or_ge i w with hi | hi
    · have b := below (i := i) (u := w) ⟨hi, by omega⟩
      obtain ⟨oi, of⟩ := ok i (by omega)
      obtain ⟨j, ej⟩ : ∃ j, j = i := ⟨_, rfl⟩
      have zl : ∀ z, (hz z (p.us i).fl).length = S.Z := fun z => hz_len.trans oi
      have zd : ∀ z, z < S.Z → -9223372036854775808 ≤ quo ((hz z (p.us i).fl).getD z 0) 2 ∧ quo ((hz z (p.us i).fl).getD z 0) 2 ≤ 9223372036854775807 := fun z h => by
        rw [hz_get (by omega)]
        have h1 := of z h
        have h2 := (quo_bd (a := (p.us i).fl.getD z 0) (b := 2) (by omega)).1 h1.1
        omega
      rcases b with ⟨rfl, b⟩ | ⟨rfl, b⟩ | ⟨rfl, b⟩ | ⟨rfl, b⟩ | ⟨rfl, b⟩ | ⟨rfl, b⟩ | ⟨rfl, b⟩ | ⟨rfl, b⟩
      all_goals first | (exfalso; omega) | refine Tw.hE (by simp only [ehp, prR, prC, unsC, unC, unR, List.cons_append, List.nil_append, Nat.reduceAdd, Nat.reduceMul, hlf, Nat.reduceLT, Nat.reduceEqDiff, Nat.lt_irrefl, reduceIte]; rfl) ?_
      all_goals
        repeat' (first
          | refine GZy_i_6i_LiJ hw ?_ ?_ ?_ ?_ ?_ ?_ ?_ ?_
          | with_reducible first | exact BzZq.mk | refine Tw.ret ?_ | refine ImZq.i fun h => ?_ | refine IkZq.i fun hk => ?_)
        refine Tw.loopK [0, 109, 110, 7] (fun z : Nat => z ≤ S.Z) (fun z => S.Z - z) (fun z => [(122, .int .i64 z), (121, .int .i64 S.Z)]) (fun z => hp { p with us := hlf p.us j z }) ⟨0, by omega, ?_⟩ (fun z hz' => ?_)
        · refine TWk.hE (by simp only [ehp, ej, prR, prC, unsC, unC, unR, List.cons_append, List.nil_append, Nat.reduceAdd, Nat.reduceMul, hlf, Nat.reduceLT, Nat.reduceEqDiff, Nat.lt_irrefl, reduceIte]; rfl) (TWk.fcanonR env 0 (by rfl) ?_)
          repeat' (first
            | refine GZ_i_6i_LiJ ?_ ?_ ?_ ?_ ?_ ?_ ?_ ?_
            | with_reducible first | exact BzZq.mk | refine Tw.ret ?_ | refine ImZq.i fun h => ?_ | refine IkZq.i fun hk => ?_)
        rcases Nat.lt_or_ge z S.Z with hz' | hz'
        · refine Tw.hE (by simp only [ehp, ej, prR, prC, unsC, unC, unR, List.cons_append, List.nil_append, Nat.reduceAdd, Nat.reduceMul, hlf, Nat.reduceLT, Nat.reduceEqDiff, Nat.lt_irrefl, reduceIte]; rfl) ?_
          have d := zd z hz'
          repeat' (first
            | exact d
            | refine GZy_i_6i_LiJ zl ?_ ?_ ?_ ?_ ?_ ?_ ?_ ?_
            | with_reducible first | exact BzZq.mk | refine Tw.ret ?_ | refine ImZq.i fun h => ?_ | refine IkZq.i fun hk => ?_)
          refine ⟨z + 1, by omega, by omega, TWk.hE (by simp only [ehp, ej, prR, prC, unsC, unC, unR, List.cons_append, List.nil_append, Nat.reduceAdd, Nat.reduceMul, hlf, Nat.reduceLT, Nat.reduceEqDiff, Nat.lt_irrefl, reduceIte]; rfl) (TWk.fcanonR env 0 (by rfl) ?_)⟩
          repeat' (first
            | exact (hz_set (by omega)).symm
            | refine GZ_i_6i_LiJ ?_ ?_ ?_ ?_ ?_ ?_ ?_ ?_
            | with_reducible first | exact BzZq.mk | refine Tw.ret ?_ | refine ImZq.i fun h => ?_ | refine IkZq.i fun hk => ?_)
        · obtain rfl : z = S.Z := by omega
          rw [hlf_next (by rw [ej]; omega)]
          refine Tw.hE (by simp only [ehp, ej, prR, prC, unsC, unC, unR, List.cons_append, List.nil_append, Nat.reduceAdd, Nat.reduceMul, hlf, Nat.reduceLT, Nat.reduceEqDiff, Nat.lt_irrefl, reduceIte]; rfl) ?_
          repeat' (first
            | refine GZp_i_6i_LiJ ?_ ?_ ?_ ?_ ?_ ?_ ?_ ?_
            | with_reducible first | exact BzZq.mk | refine Tw.ret ?_ | refine ImZq.i fun h => ?_ | refine IkZq.i fun hk => ?_)
          refine ⟨j + 1, by omega, by omega, TWk.hE (by simp only [ehp, ej, prR, prC, unsC, unC, unR, List.cons_append, List.nil_append, Nat.reduceAdd, Nat.reduceMul, hlf, Nat.reduceLT, Nat.reduceEqDiff, Nat.lt_irrefl, reduceIte]; rfl) (TWk.fcanonR env 0 (by rfl) ?_)⟩
          repeat' (first
            | refine GZx_i_6i_LiJ ej ?_ ?_ ?_ ?_ ?_ ?_ ?_ ?_
            | with_reducible first | exact BzZq.mk | refine Tw.ret ?_ | refine ImZq.i fun h => ?_ | refine IkZq.i fun hk => ?_)
    · obtain rfl : w = i := by omega
      refine Tw.hE (by simp only [ehp, hw, prR, prC, unsC, unC, unR, List.cons_append, List.nil_append, Nat.reduceAdd, Nat.reduceMul, hlf, Nat.reduceLT, Nat.reduceEqDiff, Nat.lt_irrefl, reduceIte]; rfl) ?_
      repeat' (first
        | refine GZy_i_6i_LiJ hw ?_ ?_ ?_ ?_ ?_ ?_ ?_ ?_
        | with_reducible first | exact BzZq.mk | refine Tw.ret ?_ | refine ImZq.i fun h => ?_ | refine IkZq.i fun hk => ?_)
      exact ⟨rfl, rfl⟩) : ev6_c_P n8 := h8
theorem ev6_c_1 : ev6_c_P 1 := ev6_c_A
theorem ev6_c_2 : ev6_c_P 2 := ev6_c_A
theorem ev6_c_3 : ev6_c_P 3 := ev6_c_A
theorem ev6_c_4 : ev6_c_P 4 := ev6_c_A
theorem ev6_c_5 : ev6_c_P 5 := ev6_c_A
theorem ev6_c_6 : ev6_c_P 6 := ev6_c_A
theorem ev6_c_7 : ev6_c_P 7 := ev6_c_A
theorem ev6_c_8 : ev6_c_P 8 := ev6_c_A
theorem ev6_c (S : Su) (u : Nat) (p : Ps) (s : Int) (hu : 1 ≤ u ∧ u ≤ 8) (hn : Due (0 ≤ p.n ∧ p.n ≤ 4000)) (hb : evS (s, 6, 0, 0, 0, 0) p.n u S.Z = 0) (hZ : Due (S.Z ≤ 16)) (ok : ∀ i, i < u → (p.us i).fl.length = S.Z ∧ ∀ z, z < S.Z → 0 ≤ (p.us i).fl.getD z 0 ∧ (p.us i).fl.getD z 0 ≤ 24000) : TC R Try.prog __press_Press__Event_f [.ptr 0 0, .agg [.int .i64 s, .int .i64 6, .int .i64 0, .int .i64 0, .int .i64 0, .int .i64 0]] (prR S u p) (fun v X => v = .int .i64 0 ∧ X = prR S u (evP S.Z p (s, 6, 0, 0, 0, 0))) := by
  rcases eight (u := u) (hu) with e8 | e8 | e8 | e8 | e8 | e8 | e8 | e8
  · exact ev6_c_1 S u p s hu hn hb hZ ok e8
  · exact ev6_c_2 S u p s hu hn hb hZ ok e8
  · exact ev6_c_3 S u p s hu hn hb hZ ok e8
  · exact ev6_c_4 S u p s hu hn hb hZ ok e8
  · exact ev6_c_5 S u p s hu hn hb hZ ok e8
  · exact ev6_c_6 S u p s hu hn hb hZ ok e8
  · exact ev6_c_7 S u p s hu hn hb hZ ok e8
  · exact ev6_c_8 S u p s hu hn hb hZ ok e8
end Go.Proofs.Ytbaepacihkgalaa
