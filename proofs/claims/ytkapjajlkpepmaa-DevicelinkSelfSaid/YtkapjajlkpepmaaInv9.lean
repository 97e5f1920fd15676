/- Inverse: the search finds the best candidate. -/
import Derived.Test.YtkapjajlkpepmaaInv6c
import Derived.Test.YtkapjajlkpepmaaInv7A
import Derived.Test.YtkapjajlkpepmaaInv7B
import Derived.Test.YtkapjajlkpepmaaInv8A
import Derived.Test.YtkapjajlkpepmaaInv8B
namespace Go.Proofs.Ytkapjajlkpepmaa
open Go Go.Lite
set_option linter.unusedVariables false
set_option linter.unusedSimpArgs false
set_option maxRecDepth 100000
set_option maxHeartbeats 4000000

theorem leaf_facts {x : SBox} (hx : SOk x) {fr to : List Nat} (hf : fr.length = x.n) (hF : ∀ k, k < x.n → x.F k ≤ fr.getD k 0 ∧ fr.getD k 0 ≤ to.getD k 0 ∧ to.getD k 0 ≤ x.T k) (hs : ¬ x.q.tot < ((szN (fun k => fr.getD k 0 * x.st) x.n : Nat) : Int)) (hw : (wd fr to x.n).1 = 0) :
    cand x x.F x.T (mulL x.st fr) ∧ ∀ zs, cand x (fr.getD · 0) (to.getD · 0) zs → zs = mulL x.st fr := by
  have wk := wd_ok fr to x.n
  have eft : ∀ k, k < x.n → to.getD k 0 = fr.getD k 0 := fun k hk => by have := (wk.1 hw).2 k hk; have := hF k hk; omega
  obtain ⟨ys, hys⟩ : ∃ ys, ys = mulL x.st fr := ⟨_, rfl⟩
  have yl : ys.length = x.n := by rw [hys, mulL_len, hf]
  have yg : ∀ k, ys.getD k 0 = fr.getD k 0 * x.st := fun k => by rw [hys, mulL_get]
  rw [← hys]
  refine ⟨⟨yl, fun k hk => ⟨fr.getD k 0, (hF k hk).1, by have := hF k hk; omega, yg k⟩, ?_⟩, fun zs c => ?_⟩
  · have : tsum x.n ys = szN (fun k => fr.getD k 0 * x.st) x.n := szN_congr fun k _ => by rw [yg]
    omega
  · refine ext_getD 0 (by rw [c.1, yl]) fun k hk => ?_
    rw [c.1] at hk
    obtain ⟨j, h1, h2, h3⟩ := c.2.1 k hk
    have h1 : fr.getD k 0 ≤ j := h1
    have h2 : j ≤ to.getD k 0 := h2
    have := eft k hk
    have : j = fr.getD k 0 := by omega
    rw [h3, yg, this]
theorem run_all (x : SBox) (hx : SOk x) : ∀ m, RunIH x m
  | 0 => fun _ _ _ _ _ _ _ _ _ _ _ h _ => absurd h (Nat.not_lt_zero _)
  | m + 1 => by
    intro lo hi fr to b far0 hlo hhi hf ht hF hsz hbk
    have ih0 := run_all x hx m
    have ih : RunIH x (szN (fun k => to.getD k 0 - fr.getD k 0) x.n) := fun lo hi fr2 to2 b far h1 h2 h3 h4 h5 h6 h7 => ih0 lo hi fr2 to2 b far h1 h2 h3 h4 h5 (by omega) h7
    have gi := hx.ok.g.i1
    have hb : ∀ k, k < x.n → fr.getD k 0 * x.st ≤ to.getD k 0 * x.st ∧ to.getD k 0 * x.st ≤ 255 := fun k hk => by
      have h1 := hx.top k hk
      have h2 := hF k hk
      exact ⟨Nat.mul_le_mul_right _ h2.2.1, Nat.le_trans (Nat.mul_le_mul_right _ h2.2.2) h1⟩
    have wk := wd_ok fr to x.n
    -- the two halves of the box
    have halves : (wd fr to x.n).1 ≠ 0 → (wd fr to x.n).2 < x.n ∧ fr.getD (wd fr to x.n).2 0 < to.getD (wd fr to x.n).2 0 ∧ ∀ m, m = (fr.getD (wd fr to x.n).2 0 + to.getD (wd fr to x.n).2 0) / 2 →
        (∀ (lo hi : List Int) (b : Option (List Nat)) (far : Int), lo.length = x.n → hi.length = x.n → bestOk x b far → RunB x lo hi fr (to.set (wd fr to x.n).2 m) b far) ∧
        (∀ (lo hi : List Int) (b : Option (List Nat)) (far : Int), lo.length = x.n → hi.length = x.n → bestOk x b far → RunB x lo hi (fr.set (wd fr to x.n).2 (m + 1)) to b far) := fun hw => by
      obtain ⟨ha, hWa⟩ := wk.2 (by omega)
      generalize (wd fr to x.n).2 = a at *
      have ga := hF a ha
      refine ⟨ha, by omega, fun m hm => ⟨fun lo hi b far hlo hhi hbo => ih lo hi fr (to.set a m) b far hlo hhi hf (by rw [List.length_set]; exact ht) (fun k hk => ?_) (szN_lt ha (fun k hk => ?_) ?_) hbo,
        fun lo hi b far hlo hhi hbo => ih lo hi (fr.set a (m + 1)) to b far hlo hhi (by rw [List.length_set]; exact hf) ht (fun k hk => ?_) (szN_lt ha (fun k hk => ?_) ?_) hbo⟩⟩
      · have := hF k hk
        by_cases e : k = a
        · subst e; rw [nset_eq (by omega)]; omega
        · rw [nset_ne (by omega)]; exact this
      · by_cases e : k = a
        · subst e; rw [nset_eq (by omega)]; omega
        · rw [nset_ne (by omega)]; exact Nat.le_refl _
      · rw [nset_eq (by omega)]; omega
      · have := hF k hk
        by_cases e : k = a
        · subst e; rw [nset_eq (by omega)]; omega
        · rw [nset_ne (by omega)]; exact this
      · by_cases e : k = a
        · subst e; rw [nset_eq (by omega)]; omega
        · rw [nset_ne (by omega)]; exact Nat.le_refl _
      · rw [nset_eq (by omega)]; omega
    cases b with
    | none =>
      show RunS x lo hi fr to none far0
      by_cases hs : x.q.tot < ((szN (fun k => fr.getD k 0 * x.st) x.n : Nat) : Int)
      · refine ⟨lo, hi, none, far0, hlo, hhi, ⟨trivial, fun z h => (by cases h), fun ys c => ?_⟩, none_over x hx lo hi fr to far0 hf ht hF hs⟩
        have := cand_sum c; have := c.2.2; omega
      by_cases hw : (wd fr to x.n).1 = 0
      · obtain ⟨yc, only⟩ := leaf_facts hx hf hF hs hw
        exact ⟨lo, hi, some _, _, hlo, hhi, ⟨⟨yc, rfl⟩, fun z h => (by cases h), fun zs c => by rw [only zs c]; exact .inr ⟨rfl, prec_self⟩⟩, none_leaf x hx lo hi fr to far0 hf ht hF hs hw (wk.1 hw).1 _ rfl⟩
      obtain ⟨ha, hma, q⟩ := halves hw
      obtain ⟨m, hm⟩ : ∃ m, m = (fr.getD (wd fr to x.n).2 0 + to.getD (wd fr to x.n).2 0) / 2 := ⟨_, rfl⟩
      obtain ⟨q1, q2⟩ := q m hm
      obtain ⟨lo1, hi1, b1, far1, hlo1, hhi1, d1, tc1⟩ := q1 lo hi none far0 hlo hhi trivial
      have q3 := q2 lo1 hi1 b1 far1 hlo1 hhi1 d1.ok
      cases b1 with
      | none =>
        obtain ⟨lo2, hi2, b2, far2, hlo2, hhi2, d2, tc2⟩ := q3
        exact ⟨lo2, hi2, b2, far2, hlo2, hhi2, d1.two ha hf ht d2, none_two x hx lo hi fr to far0 hf ht hF hs _ m ha hw rfl hm hma lo1 hi1 lo2 hi2 far1 far2 b2 tc1 tc2⟩
      | some z1 =>
        obtain ⟨lo2, hi2, nb, far2, hlo2, hhi2, d2, tc2⟩ := q3
        exact ⟨lo2, hi2, some (nb.getD z1), far2, hlo2, hhi2, d1.two ha hf ht d2, none_some x hx lo hi fr to far0 hf ht hF hs _ m ha hw rfl hm hma lo1 hi1 lo2 hi2 far1 far2 z1 nb tc1 tc2⟩
    | some zb =>
      show RunT x lo hi fr to zb far0
      by_cases hs : x.q.tot < ((szN (fun k => fr.getD k 0 * x.st) x.n : Nat) : Int)
      · refine ⟨lo, hi, none, far0, hlo, hhi, ⟨hbk, fun z h => (by cases h; exact .inr ⟨rfl, prec_self⟩), fun ys c => ?_⟩, some_over x hx lo hi fr to zb far0 hf ht hF hs⟩
        have := cand_sum c; have := c.2.2; omega
      obtain ⟨N, lo', hi', hlo', hhi', hN, tcb⟩ := bound_x x.p x.q x.n x.s x.st far0 lo hi (nz zb) fr to hx.ok hx.lab hx.st hf ht hlo hhi hb
      obtain ⟨r, hr0, tcr⟩ := before_x x.p x.q x.n far0 lo' hi' (nz fr) (nz to) (nz zb) gi.2 (by rw [nz_len]; exact hf) (by rw [nz_len]; exact hbk.1.1) (fun k hk => by
        rw [nz_get, hx.st, ← Int.natCast_mul]
        have := hb k hk
        omega)
      have hrp : r = true ↔ prec x.n (mulL x.st fr) zb := by
        rw [hr0]
        unfold befP prec
        constructor
        · rintro ⟨k, k1, k2, k3⟩
          refine ⟨k, k1, fun j hj => ?_, ?_⟩
          · have := k2 j hj
            rw [nz_get, nz_get, hx.st] at this
            rw [mulL_get]
            omega
          · rw [nz_get, nz_get, hx.st] at k3
            rw [mulL_get]
            omega
        · rintro ⟨k, k1, k2, k3⟩
          refine ⟨k, k1, fun j hj => ?_, ?_⟩
          · have := k2 j hj
            rw [nz_get, nz_get, hx.st]
            rw [mulL_get] at this
            omega
          · rw [nz_get, nz_get, hx.st]
            rw [mulL_get] at k3
            omega
      have allN : ∀ ys, cand x (fr.getD · 0) (to.getD · 0) ys → N ≤ sdst x ys := fun ys c => hN ys c.1 fun k hk => by
        obtain ⟨j, h1, h2, h3⟩ := c.2.1 k hk
        rw [h3]
        exact ⟨Nat.mul_le_mul_right _ h1, Nat.mul_le_mul_right _ h2⟩
      by_cases hN2 : far0 < N ∨ (N = far0 ∧ r = false)
      · refine ⟨lo', hi', none, far0, hlo', hhi', ⟨hbk, fun z h => (by cases h; exact .inr ⟨rfl, prec_self⟩), fun ys c => ?_⟩, some_skip x hx lo hi lo' hi' fr to zb far0 N r hbk hf ht hlo hhi hlo' hhi' hF tcb tcr hs hN2⟩
        have h1 := allN ys c
        show far0 < sdst x ys ∨ (far0 = sdst x ys ∧ ¬ prec x.n ys zb)
        rcases hN2 with h2 | ⟨h2, h3⟩
        · exact .inl (by omega)
        · rcases Int.lt_or_eq_of_le (show far0 ≤ sdst x ys by omega) with h4 | h4
          · exact .inl h4
          · refine .inr ⟨h4, nprec_trans (v := mulL x.st fr) (nprec_le fun k hk => ?_) fun hp => by rw [hrp.2 hp] at h3; cases h3⟩
            obtain ⟨j, j1, j2, j3⟩ := c.2.1 k hk
            rw [mulL_get, j3]
            exact Nat.mul_le_mul_right _ j1
      have cont : N < far0 ∨ (N = far0 ∧ r = true) := by
        rcases Int.lt_trichotomy N far0 with h | h | h
        · exact .inl h
        · cases r
          · exact absurd (.inr ⟨h, rfl⟩) hN2
          · exact .inr ⟨h, rfl⟩
        · exact absurd (.inl h) hN2
      by_cases hw : (wd fr to x.n).1 = 0
      · obtain ⟨yc, only⟩ := leaf_facts hx hf hF hs hw
        have hA := (wk.1 hw).1
        by_cases hset : sdst x (mulL x.st fr) < far0 ∨ (sdst x (mulL x.st fr) = far0 ∧ r = true)
        · refine ⟨lo', hi', some (mulL x.st fr), sdst x (mulL x.st fr), hlo', hhi', ⟨⟨yc, rfl⟩, fun z h => by
            cases h
            rcases hset with h1 | ⟨h1, h2⟩
            · exact .inl h1
            · exact .inr ⟨h1, prec_asymm (hrp.1 h2)⟩, fun zs c => by rw [only zs c]; exact .inr ⟨rfl, prec_self⟩⟩, ?_⟩
          rcases cont with hc | ⟨hc, hr⟩
          · exact leaf_setA x hx lo hi lo' hi' fr to zb far0 N r hf ht hF tcb tcr hs hw hA _ rfl hc hset
          · exact leaf_setB x hx lo hi lo' hi' fr to zb far0 N r hf ht hF tcb tcr hs hw hA _ rfl hc hr hset
        · have hk : far0 < sdst x (mulL x.st fr) ∨ (sdst x (mulL x.st fr) = far0 ∧ r = false) := by
            rcases Int.lt_trichotomy (sdst x (mulL x.st fr)) far0 with h | h | h
            · exact absurd (.inl h) hset
            · cases r
              · exact .inr ⟨h, rfl⟩
              · exact absurd (.inr ⟨h, rfl⟩) hset
            · exact .inl h
          refine ⟨lo', hi', none, far0, hlo', hhi', ⟨hbk, fun z h => (by cases h; exact .inr ⟨rfl, prec_self⟩), fun zs c => by
            rw [only zs c]
            rcases hk with h1 | ⟨h1, h2⟩
            · exact .inl h1
            · exact .inr ⟨h1.symm, fun hp => by rw [hrp.2 hp] at h2; cases h2⟩⟩, ?_⟩
          rcases cont with hc | ⟨hc, hr⟩
          · exact leaf_keepA x hx lo hi lo' hi' fr to zb far0 N r hf ht hF tcb tcr hs hw hA _ rfl hc hk
          · refine leaf_keepB x hx lo hi lo' hi' fr to zb far0 N r hf ht hF tcb tcr hs hw hA _ rfl hc hr ?_
            rcases hk with h | ⟨_, h⟩
            · exact h
            · rw [hr] at h; cases h
      obtain ⟨ha, hma, q⟩ := halves hw
      obtain ⟨m, hm⟩ : ∃ m, m = (fr.getD (wd fr to x.n).2 0 + to.getD (wd fr to x.n).2 0) / 2 := ⟨_, rfl⟩
      obtain ⟨q1, q2⟩ := q m hm
      obtain ⟨lo1, hi1, nb1, far1, hlo1, hhi1, d1, tc1⟩ := q1 lo' hi' (some zb) far0 hlo' hhi' hbk
      obtain ⟨lo2, hi2, nb, far2, hlo2, hhi2, d2, tc2⟩ := q2 lo1 hi1 (some (nb1.getD zb)) far1 hlo1 hhi1 d1.ok
      cases nb1 with
      | none =>
        refine ⟨lo2, hi2, nb, far2, hlo2, hhi2, d1.two ha hf ht d2, ?_⟩
        rcases cont with hc | ⟨hc, hr⟩
        · exact two_keptA x hx lo hi lo' hi' fr to zb far0 N r hf ht hF tcb tcr hs _ m ha hw rfl hm hma hc lo1 hi1 lo2 hi2 far1 far2 nb tc1 tc2
        · exact two_keptB x hx lo hi lo' hi' fr to zb far0 N r hf ht hF tcb tcr hs _ m ha hw rfl hm hma hc hr lo1 hi1 lo2 hi2 far1 far2 nb tc1 tc2
      | some z1 =>
        refine ⟨lo2, hi2, some (nb.getD z1), far2, hlo2, hhi2, d1.two ha hf ht d2, ?_⟩
        rcases cont with hc | ⟨hc, hr⟩
        · exact two_newA x hx lo hi lo' hi' fr to zb far0 N r hf ht hF tcb tcr hs _ m ha hw rfl hm hma hc lo1 hi1 lo2 hi2 far1 far2 z1 nb tc1 tc2
        · exact two_newB x hx lo hi lo' hi' fr to zb far0 N r hf ht hF tcb tcr hs _ m ha hw rfl hm hma hc hr lo1 hi1 lo2 hi2 far1 far2 z1 nb tc1 tc2
end Go.Proofs.Ytkapjajlkpepmaa
