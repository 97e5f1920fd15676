/- The amounts of the errors, from the locator, in plain words. -/
import Derived.Test.YthkilkjngincpaaRsB
namespace Go.Proofs.Ythkilkjngincpaa
open Go Go.Lite
set_option linter.unusedVariables false
set_option linter.unusedSimpArgs false
set_option maxRecDepth 100000
set_option maxHeartbeats 4000000

theorem xs_rev {f : Nat → BitVec 8} : ∀ {n : Nat}, xs (fun i => f (n - 1 - i)) n = xs f n
  | 0 => rfl
  | n + 1 => by
    rw [xs_front]
    have e : xs (fun i => f (n + 1 - 1 - (i + 1))) n = xs (fun i => f (n - 1 - i)) n := xs_congr fun i hi => by congr 1; omega
    rw [e, xs_rev]
    simp only [xs]
    rw [BitVec.xor_comm]
    congr 2
theorem hor_rev (x : BitVec 8) (p : Nat → BitVec 8) (n : Nat) : hor x (fun a => p (n - 1 - a)) n = ev p n x := by
  rw [hor_xs]
  unfold ev
  rw [← xs_rev (f := fun k => mulF (p k) (pw x k))]
/-- The sums of a word with errors e. -/
def syn (N : Nat) (e : Nat → BitVec 8) (k : Nat) : BitVec 8 := xs (fun j => mulF (e j) (pw (eX N j) k)) N
theorem syn_hor {N : Nat} {f c : Nat → BitVec 8} {k : Nat} (hc : hor (rt k) c N = 0#8) : hor (rt k) f N = syn N (fun j => f j ^^^ c j) k := by
  have h1 : hor (rt k) f N = hor (rt k) (fun j => f j ^^^ c j) N := by rw [hor_xor, hc, BitVec.xor_zero]
  rw [h1, hor_xs]
  unfold syn
  refine xs_congr fun j _ => ?_
  congr 1
  unfold eX
  rw [rt_pw, pw_pw, pw_pw, Nat.mul_comm]
theorem dis_sum {N M m n : Nat} {e C : Nat → BitVec 8} (hm : m ≤ n + 1) (hM : m ≤ M) (hz : ∀ k, m ≤ k → C k = 0#8) : xs (fun i => mulF (C i) (syn N e (n - i))) m = dis N e M C n := by
  unfold dis syn
  have h1 : ∀ i, i < m → mulF (C i) (xs (fun j => mulF (e j) (pw (eX N j) (n - i))) N) = xs (fun j => mulF (mulF (e j) (pw (eX N j) n)) (mulF (C i) (pw (eY N j) i))) N := fun i hi => by
    rw [← xs_mulL]
    refine xs_congr fun j _ => ?_
    have e1 : pw (eX N j) n = mulF (pw (eX N j) i) (pw (eX N j) (n - i)) := by rw [← pw_add]; congr 1; omega
    have e2 : mulF (pw (eY N j) i) (pw (eX N j) i) = 1#8 := by rw [← pw_mul, mulF_comm (eY N j), eXY, pw_one1]
    rw [e1, mulF_comm (C i) (pw (eY N j) i), mulF_left (mulF (e j) _) (pw (eY N j) i), mulF_left (e j) (pw (eX N j) i), mulF_assoc (pw (eX N j) i), ← mulF_assoc (pw (eY N j) i), e2, mulF_oneL, mulF_comm]
  rw [xs_congr h1, xs_swap]
  refine xs_congr fun j _ => ?_
  rw [xs_mulL, ev_more hM hz]
  unfold ev
  rw [mulF_assoc, mulF_comm (pw (eX N j) n), ← mulF_assoc]
/-- The product of two polynomials. -/
def prd (p q : Nat → BitVec 8) (m k : Nat) : BitVec 8 := xs (fun i => mulF (p i) (shf i q k)) m
theorem prd_ev {p q : Nat → BitVec 8} {m lq n : Nat} {y : BitVec 8} (hq : ∀ k, lq ≤ k → q k = 0#8) (hn : m + lq ≤ n) : ev (prd p q m) n y = mulF (ev p m y) (ev q n y) := by
  have h1 : ev (prd p q m) n y = xs (fun i => mulF (p i) (ev (shf i q) n y)) m := by
    unfold ev prd
    have e : ∀ k, k < n → mulF (xs (fun i => mulF (p i) (shf i q k)) m) (pw y k) = xs (fun i => mulF (p i) (mulF (shf i q k) (pw y k))) m := fun k _ => by
      rw [← xs_mulR]
      exact xs_congr fun i _ => mulF_assoc _ _ _
    rw [xs_congr e, xs_swap]
    exact xs_congr fun i _ => xs_mulL
  rw [h1]
  have h2 : ev p m y = xs (fun i => mulF (p i) (pw y i)) m := rfl
  rw [h2, ← xs_mulR]
  refine xs_congr fun i hi => ?_
  rw [ev_shf (m := lq) (by omega) hq, mulF_assoc]
theorem prd_zero {p q : Nat → BitVec 8} {m : Nat} (hm : 1 ≤ m) : prd p q m 0 = mulF (p 0) (q 0) := by
  unfold prd
  rw [xs_single (i := 0) (by omega) fun j _ hj => by unfold shf; rw [if_neg (by omega), mulF_zeroR]]
  rfl
theorem prd_end {p q : Nat → BitVec 8} {m lq k : Nat} (hq : ∀ k, lq ≤ k → q k = 0#8) (hk : m + lq ≤ k + 1) : prd p q m k = 0#8 :=
  xs_zero fun i hi => by
    unfold shf
    split
    · rw [hq _ (by omega), mulF_zeroR]
    · rw [mulF_zeroR]
/-- The errors' amounts times the quotients. -/
theorem om_eq {N t k : Nat} {e C : Nat → BitVec 8} (hk : k < t) : prd (syn N e) C t k = xs (fun j => mulF (e j) (hor (eX N j) C (k + 1))) N := by
  unfold prd
  rw [xs_more (m := k + 1) (by omega) fun i h1 _ => by unfold shf; rw [if_neg (by omega), mulF_zeroR]]
  have h1 : ∀ i, i < k + 1 → mulF (syn N e i) (shf i C k) = xs (fun j => mulF (e j) (mulF (C (k - i)) (pw (eX N j) i))) N := fun i hi => by
    unfold syn shf
    rw [if_pos (by omega), ← xs_mulR]
    refine xs_congr fun j _ => ?_
    rw [mulF_assoc, mulF_comm (C (k - i))]
  rw [xs_congr h1, xs_swap]
  refine xs_congr fun j _ => ?_
  rw [xs_mulL, hor_xs]
  congr 1
  rw [← xs_rev]
  refine xs_congr fun i hi => ?_
  rw [show k - (k + 1 - 1 - i) = i by omega]
/-- The quotients' values. -/
theorem quo_ev {N L : Nat} {C : Nat → BitVec 8} (m : Nat) (hL : ∀ k, L ≤ k → C k = 0#8) (hm : L ≤ m + 1) {j : Nat} (hr : ev C L (eY N j) = 0#8) (y : BitVec 8) :
    (∀ k, L ≤ k + 1 → hor (eX N j) C (k + 1) = 0#8) ∧ ev C L y = mulF (1#8 ^^^ mulF (eX N j) y) (ev (fun k => hor (eX N j) C (k + 1)) m y) := by
  have hz : ∀ k, L ≤ k + 1 → hor (eX N j) C (k + 1) = 0#8 := fun k hk => by rw [hor_ev (eXY N j), ev_more hk hL, hr, mulF_zeroR]
  refine ⟨hz, ?_⟩
  have d := ev_div (eX N j) y C (m + 1)
  rw [hz m hm, mulF_zeroR, mulF_zeroR, BitVec.xor_zero, ev_more hm hL, ev_succ, hz m hm, mulF_zeroL, BitVec.xor_zero] at d
  exact d
theorem sep {N i j : Nat} (hN : N ≤ 255) (hi : i < N) (hj : j < N) (h : j ≠ i) : 1#8 ^^^ mulF (eX N j) (eY N i) ≠ 0#8 := fun h2 => by
  have h3 : mulF (eX N j) (eY N i) = 1#8 := (xor_zero_eq h2).symm
  have h4 : eX N j = eX N i := by
    have : mulF (eX N i) (mulF (eX N j) (eY N i)) = eX N j := by rw [mulF_left, eXY, mulF_one]
    rw [h3, mulF_one] at this
    exact this.symm
  exact h (eX_inj hN hj hi h4)
/-- The value of the product at a root is the error times the quotient's value. -/
theorem om_ev {N t L i : Nat} {e C : Nat → BitVec 8} (hN : N ≤ 255) (hi : i < N) (hL : ∀ k, L ≤ k → C k = 0#8) (hLt : L ≤ t + 1) (he : ∀ j, j < N → e j ≠ 0#8 → ev C L (eY N j) = 0#8) (hr : ev C L (eY N i) = 0#8) :
    ev (prd (syn N e) C t) t (eY N i) = mulF (e i) (ev (fun k => hor (eX N i) C (k + 1)) t (eY N i)) := by
  have h1 : ev (prd (syn N e) C t) t (eY N i) = xs (fun j => mulF (e j) (ev (fun k => hor (eX N j) C (k + 1)) t (eY N i))) N := by
    unfold ev
    have h2 : ∀ k, k < t → mulF (prd (syn N e) C t k) (pw (eY N i) k) = xs (fun j => mulF (e j) (mulF (hor (eX N j) C (k + 1)) (pw (eY N i) k))) N := fun k hk => by
      rw [om_eq hk, ← xs_mulR]
      exact xs_congr fun j _ => mulF_assoc _ _ _
    rw [xs_congr h2, xs_swap]
    exact xs_congr fun j _ => xs_mulL
  rw [h1]
  refine xs_single hi fun j hj hji => ?_
  by_cases hz : e j = 0#8
  · rw [hz, mulF_zeroL]
  · have := (quo_ev (N := N) t hL hLt (he j hj hz) (eY N i)).2
    rw [hr] at this
    rw [mulF_zero this.symm (sep hN hi hj hji), mulF_zeroR]
/-- The formal derivative. -/
def slo (C : Nat → BitVec 8) (y : BitVec 8) (u : Nat) : BitVec 8 := xs (fun i => mulF (C (2 * i + 1)) (pw y (2 * i))) u
theorem slo_ev {x y : BitVec 8} (h : mulF x y = 1#8) (C : Nat → BitVec 8) : ∀ u, slo C y u = mulF x (ev (fun k => hor x C (k + 1)) (2 * u) y)
  | 0 => by simp [slo, ev, xs, mulF_zeroR]
  | u + 1 => by
    have ih := slo_ev h C u
    unfold slo at ih ⊢
    simp only [xs]
    rw [ih, show 2 * (u + 1) = 2 * u + 1 + 1 by omega, ev_succ, ev_succ]
    have hc : C (2 * u + 1) = hor x C (2 * u + 1 + 1) ^^^ mulF x (hor x C (2 * u + 1)) := by
      conv => rhs; rw [hor]
      rw [mulF_comm x, BitVec.xor_comm (mulF (hor x C (2 * u + 1)) x), BitVec.xor_assoc, BitVec.xor_self, BitVec.xor_zero]
    rw [hc]
    generalize hor x C (2 * u + 1 + 1) = H
    generalize hor x C (2 * u + 1) = G
    generalize ev (fun k => hor x C (k + 1)) (2 * u) y = E
    simp only [pw]
    generalize pw y (2 * u) = p
    simp only [mulF_xorL, mulF_xorR]
    have e1 : mulF x (mulF H (mulF p y)) = mulF H p := by rw [mulF_left, mulF_comm p y, ← mulF_assoc x, h, mulF_oneL]
    rw [e1, mulF_assoc x G p]
    simp only [BitVec.xor_assoc, BitVec.xor_comm, xcm]
/-- All places: with errors or lost. -/
def alls (N : Nat) (e : Nat → BitVec 8) (er : Nat → Bool) : List Nat := (List.range N).filter fun j => decide (e j ≠ 0#8) || er j
def losts (N : Nat) (er : Nat → Bool) : List Nat := (List.range N).filter er
theorem filter_or (p q : Nat → Bool) : ∀ l : List Nat, (l.filter fun j => p j || q j).length = (l.filter fun j => p j && !q j).length + (l.filter q).length
  | [] => rfl
  | a :: l => by
    have ih := filter_or p q l
    simp only [List.filter_cons]
    cases h1 : q a <;> cases h2 : p a <;> simp [ih] <;> omega
theorem alls_len (N : Nat) (e : Nat → BitVec 8) (er : Nat → Bool) : (alls N e er).length = (bad N e er).length + (losts N er).length :=
  filter_or (fun j => decide (e j ≠ 0#8)) er (List.range N)
/-- Where an error is, the derivative is not zero. -/
theorem slo_nz {N L u i : Nat} {e C : Nat → BitVec 8} {er : Nat → Bool} (hN : N ≤ 255) (hi : i < N) (c0 : C 0 = 1#8) (hL : ∀ k, L ≤ k → C k = 0#8) (hu : L ≤ 2 * u + 1) (hA : L ≤ (alls N e er).length + 1)
    (he : ∀ j, j < N → (e j ≠ 0#8 ∨ er j = true) → ev C L (eY N j) = 0#8) (hne : e i ≠ 0#8) : slo C (eY N i) u ≠ 0#8 := fun hs => by
  rw [slo_ev (eXY N i)] at hs
  have hq := mulF_zero hs (eX_nz N i)
  have hri := he i hi (.inl hne)
  obtain ⟨qz, _⟩ := quo_ev (N := N) (2 * u) hL hu hri 1#8
  have hmem : ∀ j, j ∈ alls N e er → j < N ∧ (e j ≠ 0#8 ∨ er j = true) := fun j hj => by
    unfold alls at hj
    rw [List.mem_filter, List.mem_range] at hj
    refine ⟨hj.1, ?_⟩
    simpa using hj.2
  have hz := roots (eX N) (eY N) (eXY N) (alls N e er) (List.Pairwise.filter _ List.nodup_range) (fun a ha b hb => eX_inj hN (hmem a ha).1 (hmem b hb).1) (fun k => hor (eX N i) C (k + 1)) (L - 1) (by omega) (fun k hk => qz k (by omega)) (fun j hj => by
    have ext : ∀ y, ev (fun k => hor (eX N i) C (k + 1)) (2 * u) y = ev (fun k => hor (eX N i) C (k + 1)) (L - 1) y := fun y => ev_more (by omega) fun k hk => qz k (by omega)
    by_cases e1 : j = i
    · subst e1; rw [← ext]; exact hq
    · have h2 := (quo_ev (N := N) (2 * u) hL hu hri (eY N j)).2
      rw [he j (hmem j hj).1 (hmem j hj).2] at h2
      rw [← ext]
      exact mulF_zero h2.symm (sep hN (hmem j hj).1 hi (fun h => e1 h.symm))) 0
  simp only [hor, mulF_zeroL, BitVec.zero_xor, c0] at hz
  revert hz; decide
/-- What is added to a symbol is its error. -/
theorem put_right {N t L u i : Nat} {e C : Nat → BitVec 8} {er : Nat → Bool} (hN : N ≤ 255) (hi : i < N) (c0 : C 0 = 1#8) (hL : ∀ k, L ≤ k → C k = 0#8) (hLt : L ≤ t + 1) (hu : L ≤ 2 * u + 1) (hu2 : 2 * u ≤ L) (hA : L ≤ (alls N e er).length + 1)
    (he : ∀ j, j < N → (e j ≠ 0#8 ∨ er j = true) → ev C L (eY N j) = 0#8) :
    (if ev C L (eY N i) ≠ 0#8 then 0#8 else if slo C (eY N i) u = 0#8 then 0#8 else mulF (mulF (eX N i) (ev (prd (syn N e) C t) t (eY N i))) (iv (slo C (eY N i) u))) = e i := by
  by_cases h1 : ev C L (eY N i) = 0#8
  · rw [if_neg (by simp [h1])]
    by_cases h2 : e i = 0#8
    · split
      · exact h2.symm
      · rw [om_ev hN hi hL hLt (fun j hj hh => he j hj (.inl hh)) h1, h2, mulF_zeroL, mulF_zeroR, mulF_zeroL]
    · have h3 := slo_nz hN hi c0 hL hu hA he h2
      rw [if_neg h3, om_ev hN hi hL hLt (fun j hj hh => he j hj (.inl hh)) h1]
      obtain ⟨qz, _⟩ := quo_ev (N := N) t hL hLt h1 1#8
      have e1 : ev (fun k => hor (eX N i) C (k + 1)) t (eY N i) = ev (fun k => hor (eX N i) C (k + 1)) (2 * u) (eY N i) := by
        rw [ev_more (m := L - 1) (by omega) (fun k hk => qz k (by omega)), ev_more (n := 2 * u) (m := L - 1) (by omega) (fun k hk => qz k (by omega))]
      have e2 : mulF (eX N i) (mulF (e i) (ev (fun k => hor (eX N i) C (k + 1)) t (eY N i))) = mulF (e i) (slo C (eY N i) u) := by rw [e1, slo_ev (eXY N i), mulF_left]
      rw [e2, mulF_assoc, iv_mul h3, mulF_one]
  · rw [if_pos h1]
    exact (Decidable.byContradiction fun h2 => h1 (he i hi (.inl fun h3 => h2 h3.symm)))
end Go.Proofs.Ythkilkjngincpaa
