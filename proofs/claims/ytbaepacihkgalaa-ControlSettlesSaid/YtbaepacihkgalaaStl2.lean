/- Plain: a press that is corrected, sheet by sheet. -/
import Derived.Test.YtbaepacihkgalaaStl1
import Derived.Test.YtbaepacihkgalaaCtl9
namespace Go.Proofs.Ytbaepacihkgalaa
open Go Go.Lite
set_option linter.unusedVariables false
set_option linter.unusedSimpArgs false
set_option maxRecDepth 100000
set_option maxHeartbeats 4000000

theorem sset_same {l : List Int} {z : Nat} {v : Int} (h : l.getD z 0 = v) (hz : z < l.length) : l.set z v = l := by
  refine List.ext_getElem (by rw [List.length_set]) fun i h1 h2 => ?_
  by_cases e : z = i
  · subst e
    rw [List.getElem_set_self, ← h, List.getD_eq_getElem?_getD, List.getElem?_eq_getElem hz]; rfl
  · rw [List.getElem_set_ne e]
theorem kzL_len' {S : Su} {ks : Nat → List Int} {fm : List (List Int)} {i : Nat} : ∀ z, (kzL S ks fm i z).length = (ks i).length
  | 0 => rfl
  | z + 1 => by rw [kzL, List.length_set, kzL_len' z]
theorem kzL_ge {S : Su} {ks : Nat → List Int} {fm : List (List Int)} {i : Nat} : ∀ z y, z ≤ y → (kzL S ks fm i z).getD y 0 = (ks i).getD y 0
  | 0, _, _ => rfl
  | z + 1, y, h => by rw [kzL, getD_set_ne (by omega), kzL_ge z y (by omega)]
theorem skzL_at {S : Su} {ks : Nat → List Int} {fm : List (List Int)} {i : Nat} : ∀ z y, y < z → y < (ks i).length → (kzL S ks fm i z).getD y 0 = kyN S ks fm i y
  | 0, _, h, _ => by omega
  | z + 1, y, h, hy => by
    by_cases e : y = z
    · subst e
      rw [kzL, getD_set_eq (by rw [kzL_len']; exact hy)]
    · rw [kzL, getD_set_ne (by omega), skzL_at z y (by omega) hy]
theorem upU_same {us : Nat → Un} {i : Nat} : upU us i (us i) = us := by
  funext k
  unfold upU
  split
  · rename_i e; rw [e]
  · rfl
theorem upU_twice {us : Nat → Un} {i : Nat} {a b : Un} : upU (upU us i a) i b = upU us i b := by
  funext k
  unfold upU
  split <;> rfl
theorem fzE_fold {S : Su} {ks : Nat → List Int} {fm : List (List Int)} {n : Int} {i : Nat} {p : Ps} (hp : (p.us i).ks = ks i) : ∀ z, z ≤ (ks i).length → (fzE S ks fm n i z).foldl (evP S.Z) p = { p with us := upU p.us i { p.us i with ks := kzL S ks fm i z } }
  | 0, _ => by
    show p = { p with us := upU p.us i { p.us i with ks := ks i } }
    rw [← hp, upU_same]
  | z + 1, hz => by
    have ih := fzE_fold (S := S) (fm := fm) (n := n) hp z (by omega)
    rw [fzE]
    split
    · rename_i e
      rw [ih, kzL, sset_same (by rw [kzL_ge z z (Nat.le_refl z)]; exact e.symm) (by rw [kzL_len']; omega)]
    · rw [List.foldl_append, ih, List.foldl_cons, List.foldl_nil]
      unfold evP
      rw [if_neg (show ¬ (1 : Int) = 3 by omega), if_neg (show ¬ (1 : Int) = 6 by omega), if_neg (show ¬ (1 : Int) = 5 by omega)]
      dsimp only
      rw [Int.toNat_natCast, upU_twice]
      have e : upU p.us i { p.us i with ks := kzL S ks fm i z } i = { p.us i with ks := kzL S ks fm i z } := by unfold upU; rw [if_pos rfl]
      rw [e]
      unfold evU
      rw [if_neg (show ¬ (1 : Int) = 0 by omega), if_pos rfl]
      rfl
/-- The controller's events set the press's keys to the controller's, where no unit is out of register. -/
theorem feE_fold {S : Su} {u : Nat} {c : Ct} {sh : List (Int × Int)} {fm : List (List Int)} {p : Ps} (hp : ∀ i, i < u → (p.us i).ks = c.ks i) (hl : ∀ i, i < u → (c.ks i).length = S.Z) (hs : ∀ i, i < u → sh.getD i (0, 0) = (0, 0)) : ∀ m, m ≤ u → (feE S c sh fm m).foldl (evP S.Z) p = { p with us := fun i => if i < m then { p.us i with ks := kdn S c fm i } else p.us i }
  | 0, _ => rfl
  | m + 1, hm => by
    have ih := feE_fold (S := S) (c := c) (sh := sh) (fm := fm) hp hl hs m (by omega)
    have ej : jmE S c sh m = [] := if_neg fun h => h.2 (by rw [hs m (by omega)]; exact ⟨rfl, rfl⟩)
    rw [feE, ej, List.append_nil, List.foldl_append, ih]
    have e1 : ∀ i, (if i < m + 1 then { p.us i with ks := kdn S c fm i } else p.us i) = if i = m then { p.us m with ks := kdn S c fm m } else if i < m then { p.us i with ks := kdn S c fm i } else p.us i := fun i => by
      by_cases h : i = m
      · subst h
        rw [if_pos (by omega), if_pos rfl]
      · rw [if_neg h]
        by_cases h2 : i < m
        · rw [if_pos (by omega), if_pos h2]
        · rw [if_neg (by omega), if_neg h2]
    have e2 : (fun i => if i < m + 1 then { p.us i with ks := kdn S c fm i } else p.us i) = upU (fun i => if i < m then { p.us i with ks := kdn S c fm i } else p.us i) m { p.us m with ks := kdn S c fm m } := by
      funext i
      rw [e1]; rfl
    rw [e2]
    unfold kyE
    by_cases hr : rem (c.n + 1) c.ci = 0
    · rw [if_pos hr]
      have e3 : (if m < m then { p.us m with ks := kdn S c fm m } else p.us m) = p.us m := if_neg (by omega)
      rw [fzE_fold (by dsimp only; rw [e3]; exact hp m (by omega)) S.Z (by rw [hl m (by omega)]; exact Nat.le_refl _)]
      dsimp only
      rw [e3]
      unfold kdn
      rw [if_pos hr]
    · rw [if_neg hr, List.foldl_nil]
      have e3 : (if m < m then { p.us m with ks := kdn S c fm m } else p.us m) = p.us m := if_neg (by omega)
      have e4 : kdn S c fm m = (p.us m).ks := by unfold kdn; rw [if_neg hr, hp m (by omega)]
      have e5 : upU (fun i => if i < m then { p.us i with ks := kdn S c fm i } else p.us i) m { p.us m with ks := kdn S c fm m } = fun i => if i < m then { p.us i with ks := kdn S c fm i } else p.us i := by
        rw [e4]
        have := upU_same (us := fun i => if i < m then { p.us i with ks := kdn S c fm i } else p.us i) (i := m)
        dsimp only at this
        rw [e3] at this
        exact this
      rw [e5]
/-- What holds of the press that prints sheet k + 1. -/
structure SI (S : Su) (u : Nat) (g : Nat → Int) (I : Nat) (k : Nat) (s : Lp) : Prop where
  j : (lpB S k s).j = 0
  r : (tkE ((k : Int) + 1) s.rest).2 = []
  n : s.c.n = k
  ci : s.c.ci = I
  un : ∀ i, i < u → ((lpB S k s).us i).x = 0 ∧ ((lpB S k s).us i).y = 0 ∧ ((lpB S k s).us i).dx = 0 ∧ ((lpB S k s).us i).dy = 0 ∧ ((lpB S k s).us i).gn = g i ∧ ((lpB S k s).us i).ks = s.c.ks i
  num : ∀ i z, i < u → z < S.Z → NI (8 + (S.ld.getD i []).getD z 0) (S.tg.getD i 0) (g i) (((lpB S k s).us i).ks.getD z 0) (((lpB S k s).us i).fl.getD z 0) (k / I) (k % I)
/-- A unit that has printed. -/
theorem si_dn {S : Su} {u k I : Nat} {g : Nat → Int} {s : Lp} (so : SuOk S u) (ok : PsOk S u (lpB S k s)) (h : SI S u g I k s) {i : Nat} (hi : i < u) :
    (dnU S (lpB S k s).us i).x = 0 ∧ (dnU S (lpB S k s).us i).y = 0 ∧ (dnU S (lpB S k s).us i).dx = 0 ∧ (dnU S (lpB S k s).us i).dy = 0 ∧ (dnU S (lpB S k s).us i).gn = g i ∧ (dnU S (lpB S k s).us i).ks = s.c.ks i ∧
    ∀ z, z < S.Z → NI (8 + (S.ld.getD i []).getD z 0) (S.tg.getD i 0) (g i) ((s.c.ks i).getD z 0) ((dnU S (lpB S k s).us i).fl.getD z 0) (k / I) (k % I + 1) := by
  obtain ⟨h1, h2, h3, h4, h5, h6⟩ := h.un i hi
  have hn := fun z hz => h.num i z hi hz
  have hf := (ok.un i hi).fl
  obtain ⟨q, eq⟩ : ∃ q, q = (lpB S k s).us := ⟨_, rfl⟩
  rw [← eq] at h1 h2 h3 h4 h5 h6 hn hf ⊢
  have e : ∀ n (a : Un) (ld : List Int), (nkU a ld n).x = a.x ∧ (nkU a ld n).y = a.y ∧ (nkU a ld n).dx = a.dx ∧ (nkU a ld n).dy = a.dy := by
    intro n a ld
    induction n with
    | zero => exact ⟨rfl, rfl, rfl, rfl⟩
    | succ n ih => exact ih
  obtain ⟨e1, e2, e3, e4⟩ := e S.Z (mv1 q i) (S.ld.getD i [])
  have e5 := nkU_ks (a := mv1 q i) (ld := S.ld.getD i []) S.Z
  refine ⟨?_, ?_, ?_, ?_, ?_, ?_, fun z hz => ?_⟩
  · show (nkU (mv1 q i) _ _).x = 0
    rw [e1]
    show cutP ((q i).x + (q i).dx) = 0
    rw [h1, h3]; rfl
  · show (nkU (mv1 q i) _ _).y = 0
    rw [e2]
    show cutP ((q i).y + (q i).dy) = 0
    rw [h2, h4]; rfl
  · show (nkU (mv1 q i) _ _).dx = 0
    rw [e3]; exact h3
  · show (nkU (mv1 q i) _ _).dy = 0
    rw [e4]; exact h4
  · show (nkU (mv1 q i) _ _).gn = g i
    rw [e5.2]; exact h5
  · show (nkU (mv1 q i) _ _).ks = _
    rw [e5.1]; exact h6
  · have hv := (so.l i hi).2 z hz
    have hp := ni_print hv (hn z hz)
    rw [h6] at hp
    show NI _ _ _ _ ((nkU (mv1 q i) (S.ld.getD i []) S.Z).fl.getD z 0) _ _
    rw [nkU_fl (a := mv1 q i) (by show z < (q i).fl.length; omega) S.Z, if_pos hz]
    show NI _ _ _ _ (inkV ((q i).fl.getD z 0) ((q i).ks.getD z 0) (q i).gn _) _ _
    rw [h5, h6]
    exact hp
end Go.Proofs.Ytbaepacihkgalaa
