/- Controllers: one that never corrects. -/
import Derived.Test.YtbaepacihkgalaaCtl4
import Derived.Test.YtbaepacihkgalaaPrsR
namespace Go.Proofs.Ytbaepacihkgalaa
open Go Go.Lite
set_option linter.unusedVariables false
set_option linter.unusedSimpArgs false
set_option maxRecDepth 100000
set_option maxHeartbeats 4000000

theorem tab_cgr {α : Type} {n : Nat} {f g : Nat → α} (h : ∀ i, i < n → f i = g i) : tab n f = tab n g := by
  unfold tab
  exact List.map_congr_left fun i hi => h i (by simpa using hi)
theorem lpL_succ' {S : Su} {u : Nat} {c : Ct} {l : List Ev} {n k : Nat} (h : k < n) : (lpL S u c l n).getD k (0, 0, [], [], 0) = recO S u (lpB S k (lp S u c l k)) := tab_get h
theorem runE_tk {Z : Nat} {k : Int} : ∀ {l : List Ev} {p : Ps}, runE Z k l p = ((tkE k l).1.foldl (evP Z) p, (tkE k l).2)
  | [], p => rfl
  | v :: l, p => by
    rw [runE, tkE]
    split
    · rw [runE_tk]; rfl
    · rfl
theorem feE_none {S : Su} {c : Ct} {sh : List (Int × Int)} {fm : List (List Int)} (h1 : rem (c.n + 1) c.ci ≠ 0) (h2 : rem (c.n + 1) c.cr ≠ 0) : ∀ i, feE S c sh fm i = []
  | 0 => rfl
  | i + 1 => by
    rw [feE, feE_none h1 h2 i, show kyE S c fm i = [] from if_neg h1, show jmE S c sh i = [] from if_neg fun h => h2 h.1]; rfl
theorem lp_idle {S : Su} {u : Nat} {c : Ct} {l : List Ev} (h : ∀ n : Int, 0 ≤ n → n < 100 → rem (n + 1) c.ci ≠ 0 ∧ rem (n + 1) c.cr ≠ 0) (hn : c.n = 0) : ∀ k, k < 100 → (lp S u c l k).own = [] ∧ (lp S u c l k).p = (runP S u l k).1 ∧ (lp S u c l k).rest = (runP S u l k).2 ∧ (lp S u c l k).c.n = k ∧ (lp S u c l k).c.ci = c.ci ∧ (lp S u c l k).c.cr = c.cr
  | 0, _ => ⟨rfl, rfl, rfl, hn, rfl, rfl⟩
  | k + 1, hk => by
    obtain ⟨e1, e2, e3, e4, e5, e6⟩ := lp_idle h hn k (by omega)
    have r := runE_tk (Z := S.Z) (k := (k : Int) + 1) (l := (runP S u l k).2) (p := (runP S u l k).1)
    have hb : lpB S k (lp S u c l k) = (runE S.Z (k + 1) (runP S u l k).2 (runP S u l k).1).1 := by
      unfold lpB
      rw [e1, e2, e3, r]; rfl
    have h4 := h k (by omega) (by omega)
    refine ⟨feE_none (by rw [e4, e5]; exact h4.1) (by rw [e4, e6]; exact h4.2) u, ?_, ?_, ?_, e5, e6⟩
    · show fedP S u (lpB S k (lp S u c l k)) = fedP S u (runE S.Z (k + 1) (runP S u l k).2 (runP S u l k).1).1
      rw [hb]
    · show (tkE ((k : Int) + 1) (lp S u c l k).rest).2 = (runE S.Z (k + 1) (runP S u l k).2 (runP S u l k).1).2
      rw [e3, r]
    · show (lp S u c l k).c.n + 1 = _
      rw [e4]; omega
theorem lpL_idle {S : Su} {u : Nat} {c : Ct} {l : List Ev} {n : Nat} (h : ∀ n : Int, 0 ≤ n → n < 100 → rem (n + 1) c.ci ≠ 0 ∧ rem (n + 1) c.cr ≠ 0) (hc : c.n = 0) (hn : n ≤ 100) : lpL S u c l n = runL S u l n := by
  unfold lpL runL
  refine tab_cgr fun k hk => ?_
  obtain ⟨e1, e2, e3, _⟩ := lp_idle (S := S) (u := u) (l := l) h hc k (by omega)
  have r := runE_tk (Z := S.Z) (k := (k : Int) + 1) (l := (runP S u l k).2) (p := (runP S u l k).1)
  have hb : lpB S k (lp S u c l k) = runB S u l k := by
    unfold lpB runB
    rw [e1, e2, e3, r]; rfl
  rw [hb]
theorem idle4000 : ∀ n : Int, 0 ≤ n → n < 100 → rem (n + 1) 4000 ≠ 0 ∧ rem (n + 1) 4000 ≠ 0 := fun n h1 h2 => by
  have : rem (n + 1) 4000 = n + 1 := by
    unfold rem
    exact Int.tmod_eq_of_lt (by omega) (by omega)
  rw [this]
  omega
end Go.Proofs.Ytbaepacihkgalaa
