/- Presses: events and sheets keep a press in order. -/
import Derived.Test.YtbaepacihkgalaaPrs9
import Derived.Test.YtbaepacihkgalaaPrsD
import Derived.Test.YtbaepacihkgalaaPrsN
namespace Go.Proofs.Ytbaepacihkgalaa
open Go Go.Lite
set_option linter.unusedVariables false
set_option linter.unusedSimpArgs false
set_option maxRecDepth 100000
set_option maxHeartbeats 4000000
-- @simp rdi rd6i rdLiJ

theorem pev_c (S : Su) (u : Nat) (p : Ps) (so : SuOk S u) (ok : PsOk S u p) (s k un zn x y : Int) :
    TC R Try.prog __press_Press__Event_f [.ptr 0 0, .agg [.int .i64 s, .int .i64 k, .int .i64 un, .int .i64 zn, .int .i64 x, .int .i64 y]] (prR S u p) (fun v X => v = .int .i64 (evS (s, k, un, zn, x, y) p.n u S.Z) ∧ X = prR S u (if evS (s, k, un, zn, x, y) p.n u S.Z = 0 then evP S.Z p (s, k, un, zn, x, y) else p)) := by
  have hn : Due (0 ≤ p.n ∧ p.n ≤ 4000) := ok.n
  by_cases hb : evS (s, k, un, zn, x, y) p.n u S.Z = 0
  rotate_left
  · rw [if_neg hb]
    exact evBad_c S u p s k un zn x y so.un hn hb
  rw [if_pos hb, hb]
  obtain ⟨⟨_, _, hk0, hk6⟩, hf, hi⟩ := evE_ok (evS_ok hb).2
  unfold frmK at hf
  unfold inK at hi
  obtain ⟨f1, f2, f3, f4⟩ := hf
  have hu := so.un
  have hk : k = 0 ∨ k = 1 ∨ k = 2 ∨ k = 3 ∨ k = 4 ∨ k = 5 ∨ k = 6 := by omega
  by_cases h3 : k = 3
  · subst h3
    obtain rfl := f1 (Or.inl rfl)
    obtain rfl := f2 (by omega)
    obtain rfl := f4 (by omega)
    exact ev3_c S u p s x so.un hn hb
  by_cases h6 : k = 6
  · subst h6
    obtain rfl := f1 (Or.inr rfl)
    obtain rfl := f2 (by omega)
    obtain rfl := f3 (by omega)
    obtain rfl := f4 (by omega)
    exact ev6_c S u p s so.un hn hb (show S.Z ≤ 16 from so.Z.2) (fun i hi => ⟨(ok.un i hi).fl, (ok.un i hi).f⟩)
  have iu := hi.1 ⟨h3, h6⟩
  obtain ⟨i, rfl⟩ : ∃ i : Nat, un = i := ⟨un.toNat, by omega⟩
  have hiu : i < u ∧ u ≤ 8 := by omega
  have oi := ok.un i hiu.1
  by_cases h4 : k = 4
  · subst h4
    obtain rfl := f2 (by omega)
    exact ev4_c S u i p s x y hiu hn hb oi
  by_cases h5 : k = 5
  · subst h5
    obtain rfl := f2 (by omega)
    obtain rfl := f3 (by omega)
    obtain rfl := f4 (by omega)
    exact ev5_c S u i p s hiu hn hb oi.fl
  exact ev0_c S u i p s k zn x y hiu (by omega) hn hb oi.kl

theorem evP_ok {S : Su} {u : Nat} {p : Ps} (so : SuOk S u) (ok : PsOk S u p) {s k un zn x y : Int} (hb : evS (s, k, un, zn, x, y) p.n u S.Z = 0) : PsOk S u (evP S.Z p (s, k, un, zn, x, y)) := by
  obtain ⟨⟨_, _, hk0, hk6⟩, hf, hi⟩ := evE_ok (evS_ok hb).2
  unfold inK at hi
  obtain ⟨i1, i2, i3, i4, i5⟩ := hi
  have on := ok.n
  have os := ok.s
  have oj := ok.j
  unfold evP
  dsimp only
  by_cases h3 : k = 3
  · subst h3
    rw [if_pos rfl]
    simp [lowK, topK] at i3 i4
    exact ⟨on, os, by dsimp only; omega, ok.un⟩
  rw [if_neg h3]
  by_cases h6 : k = 6
  · rw [if_pos h6]
    refine ⟨on, os, oj, fun i hi => ?_⟩
    have o := ok.un i hi
    refine ⟨o.x, o.y, o.dx, o.dy, o.gn, o.kl, by simp only [halfU, List.length_map]; exact o.fl, o.k, fun z hz => ?_⟩
    have e : (halfU (p.us i)).fl.getD z 0 = quo ((p.us i).fl.getD z 0) 2 := by
      have hl : z < (p.us i).fl.length := by rw [o.fl]; exact hz
      simp only [halfU, List.getD_eq_getElem?_getD, List.getElem?_map, List.getElem?_eq_getElem hl, Option.map_some, Option.getD_some]
    rw [e]
    have f := o.f z hz
    have := (quo_bd (a := (p.us i).fl.getD z 0) (b := 2) (by omega)).1 f.1
    omega
  rw [if_neg h6]
  have iu := i1 ⟨h3, h6⟩
  refine ⟨on, by dsimp only; split <;> omega, oj, fun i hi => ?_⟩
  dsimp only [upU]
  split
  · rename_i e
    subst e
    have o := ok.un un.toNat hi
    unfold evU
    by_cases h0 : k = 0
    · rw [if_pos h0]
      subst h0
      have i5 := i5 (Or.inl rfl)
      simp [lowK, topK] at i3 i4 i5
      exact ⟨o.x, o.y, ⟨i3, i4⟩, i5, o.gn, o.kl, o.fl, o.k, o.f⟩
    rw [if_neg h0]
    by_cases h1 : k = 1
    · rw [if_pos h1]
      subst h1
      have i2 := i2 rfl
      simp [lowK, topK] at i3 i4
      refine ⟨o.x, o.y, o.dx, o.dy, o.gn, by simp only [List.length_set]; exact o.kl, o.fl, fun z hz => ?_, o.f⟩
      dsimp only
      by_cases e : zn.toNat = z
      · subst e
        rw [getD_set_eq (by rw [o.kl]; omega)]
        omega
      · rw [getD_set_ne e]
        exact o.k z hz
    rw [if_neg h1]
    by_cases h2 : k = 2
    · rw [if_pos h2]
      subst h2
      simp [lowK, topK] at i3 i4
      exact ⟨o.x, o.y, o.dx, o.dy, ⟨i3, i4⟩, o.kl, o.fl, o.k, o.f⟩
    rw [if_neg h2]
    by_cases h4 : k = 4
    · rw [if_pos h4]
      exact mv_ok o
    rw [if_neg h4]
    have ef : (p.us un.toNat).fl.take 0 ++ List.replicate S.Z (0 : Int) ++ (p.us un.toNat).fl.drop (0 + S.Z) = List.replicate S.Z 0 := by
      rw [List.take_zero, List.nil_append, List.drop_of_length_le (by rw [o.fl]; omega), List.append_nil]
    refine ⟨o.x, o.y, o.dx, o.dy, o.gn, o.kl, by dsimp only; rw [ef]; exact List.length_replicate, o.k, fun z hz => ?_⟩
    dsimp only
    rw [ef, getD_repl hz]
    omega
  · exact ok.un i hi
theorem fedP_ok {S : Su} {u : Nat} {p : Ps} (so : SuOk S u) (ok : PsOk S u p) (hn : p.n < 4000) : PsOk S u (fedP S u p) := by
  have on := ok.n
  have os := ok.s
  have oj := ok.j
  refine ⟨by dsimp only [fedP]; omega, by dsimp only [fedP]; omega, by dsimp only [fedP]; split <;> omega, fun i hi => ?_⟩
  show UOk S.Z (fe0 S p.us u i)
  unfold fe0
  rw [if_pos hi]
  exact nk_ok (mv_ok (ok.un i hi)) (so.l i hi).2 S.Z (Nat.le_refl _)
theorem newP_ok {S : Su} {u : Nat} (so : SuOk S u) : PsOk S u (newP S) := by
  refine ⟨by dsimp only [newP]; omega, by dsimp only [newP]; omega, by dsimp only [newP]; omega, fun i hi => ?_⟩
  have k := so.k i hi
  refine ⟨by simp only [newP, newU]; omega, by simp only [newP, newU]; omega, by simp only [newP, newU]; omega, by simp only [newP, newU]; omega, by simp only [newP, newU]; omega, k.1, List.length_replicate, k.2, fun z hz => ?_⟩
  have : (List.replicate S.Z (0 : Int)).getD z 0 = 0 := getD_repl hz
  simp only [newP, newU]
  omega
end Go.Proofs.Ytbaepacihkgalaa
