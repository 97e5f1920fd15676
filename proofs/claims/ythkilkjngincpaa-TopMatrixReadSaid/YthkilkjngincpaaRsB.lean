/- The search for the locator, in plain words: what stays true from step to step. -/
import Derived.Test.YthkilkjngincpaaRsV
namespace Go.Proofs.Ythkilkjngincpaa
open Go Go.Lite
set_option linter.unusedVariables false
set_option linter.unusedSimpArgs false
set_option maxRecDepth 100000
set_option maxHeartbeats 4000000

def eX (N j : Nat) : BitVec 8 := pw 2#8 (N - 1 - j)
def eY (N j : Nat) : BitVec 8 := iv (eX N j)
theorem eX_nz (N j : Nat) : eX N j ≠ 0#8 := pw_nz two_nz _
theorem eXY (N j : Nat) : mulF (eX N j) (eY N j) = 1#8 := iv_mul (eX_nz N j)
theorem eX_inj {N : Nat} (hN : N ≤ 255) {i j : Nat} (hi : i < N) (hj : j < N) (h : eX N i = eX N j) : i = j := by
  have := two_inj (a := N - 1 - i) (b := N - 1 - j) (by omega) (by omega) h
  omega
/-- Places with errors that are not known. -/
def bad (N : Nat) (e : Nat → BitVec 8) (er : Nat → Bool) : List Nat := (List.range N).filter fun j => decide (e j ≠ 0#8) && !er j
theorem bad_mem {N : Nat} {e : Nat → BitVec 8} {er : Nat → Bool} {j : Nat} : j ∈ bad N e er ↔ j < N ∧ e j ≠ 0#8 ∧ er j = false := by
  unfold bad
  rw [List.mem_filter, List.mem_range]
  simp
theorem bad_nodup (N : Nat) (e : Nat → BitVec 8) (er : Nat → Bool) : (bad N e er).Nodup := List.Pairwise.filter _ List.nodup_range
/-- What is wrong at step k, by the polynomial P (of less than M coefficients). -/
def dis (N : Nat) (e : Nat → BitVec 8) (M : Nat) (P : Nat → BitVec 8) (k : Nat) : BitVec 8 := xs (fun j => mulF (mulF (e j) (ev P M (eY N j))) (pw (eX N j) k)) N
theorem dis_bad {N M : Nat} {e : Nat → BitVec 8} {er : Nat → Bool} {P : Nat → BitVec 8} (hP : ∀ j, j < N → er j = true → ev P M (eY N j) = 0#8) (k : Nat) :
    dis N e M P k = xl (bad N e er) fun j => mulF (mulF (e j) (ev P M (eY N j))) (pw (eX N j) k) := by
  unfold bad dis
  rw [xl_filter, xl_range]
  intro j hj hb
  have hj := List.mem_range.1 hj
  cases he : er j with
  | true => rw [hP j hj he, mulF_zeroR, mulF_zeroL]
  | false =>
    rw [he] at hb
    have : e j = 0#8 := by simpa using hb
    rw [this, mulF_zeroL, mulF_zeroL]
/-- As many zeros as unknown errors, one behind another: all is zero. -/
theorem dis_zero {N M : Nat} {e : Nat → BitVec 8} {er : Nat → Bool} {P : Nat → BitVec 8} (hN : N ≤ 255) (hP : ∀ j, j < N → er j = true → ev P M (eY N j) = 0#8) (a : Nat) (h : ∀ k, a ≤ k → k < a + (bad N e er).length → dis N e M P k = 0#8) :
    ∀ j, j < N → mulF (e j) (ev P M (eY N j)) = 0#8 := by
  have hz := vand (eX N) (bad N e er) (bad_nodup N e er) (fun i hi j hj => eX_inj hN (bad_mem.1 hi).1 (bad_mem.1 hj).1) (fun j => mulF (mulF (e j) (ev P M (eY N j))) (pw (eX N j) a)) (fun k hk => by
    have := h (a + k) (by omega) (by omega)
    rw [dis_bad hP] at this
    rw [← this]
    refine xl_congr fun j _ => ?_
    rw [mulF_assoc, ← pw_add])
  intro j hj
  by_cases hb : j ∈ bad N e er
  · have h1 := hz j hb
    rw [mulF_comm] at h1
    exact mulF_zero h1 (pw_nz (eX_nz N j) a)
  · cases he : er j with
    | true => rw [hP j hj he, mulF_zeroR]
    | false =>
      have : e j = 0#8 := Decidable.byContradiction fun h => hb (bad_mem.2 ⟨hj, h, he⟩)
      rw [this, mulF_zeroL]
theorem dis_zero_all {N M : Nat} {e : Nat → BitVec 8} {er : Nat → Bool} {P : Nat → BitVec 8} (hN : N ≤ 255) (hP : ∀ j, j < N → er j = true → ev P M (eY N j) = 0#8) (a : Nat) (h : ∀ k, a ≤ k → k < a + (bad N e er).length → dis N e M P k = 0#8) (k : Nat) : dis N e M P k = 0#8 :=
  xs_zero fun j hj => by rw [dis_zero hN hP a h j hj, mulF_zeroL]
theorem dis_xor {N M : Nat} {e P Q : Nat → BitVec 8} {k : Nat} : dis N e M (fun i => P i ^^^ Q i) k = dis N e M P k ^^^ dis N e M Q k := by
  unfold dis
  rw [← xs_xor]
  refine xs_congr fun j _ => ?_
  rw [ev_xor, mulF_xorR, mulF_xorL]
theorem dis_mul {N M : Nat} {e P : Nat → BitVec 8} {x : BitVec 8} {k : Nat} : dis N e M (fun i => mulF x (P i)) k = mulF x (dis N e M P k) := by
  unfold dis
  rw [← xs_mulL]
  refine xs_congr fun j _ => ?_
  rw [ev_mul, mulF_left (e j), mulF_assoc]
theorem shf_alg {E V a b c : BitVec 8} (h : mulF b a = 1#8) : mulF (mulF E (mulF a V)) (mulF b c) = mulF (mulF E V) c := by
  rw [mulF_left _ b, mulF_left E a, mulF_assoc a, ← mulF_assoc b, h, mulF_oneL]
theorem dis_shf {N M g m k : Nat} {e P : Nat → BitVec 8} (h : m + g ≤ M) (hz : ∀ i, m ≤ i → P i = 0#8) (hk : g ≤ k) : dis N e M (shf g P) k = dis N e M P (k - g) := by
  unfold dis
  refine xs_congr fun j _ => ?_
  rw [ev_shf h hz]
  have e1 : pw (eX N j) k = mulF (pw (eX N j) g) (pw (eX N j) (k - g)) := by rw [← pw_add]; congr 1; omega
  have e2 : mulF (pw (eX N j) g) (pw (eY N j) g) = 1#8 := by rw [← pw_mul, eXY, pw_one1]
  rw [e1, shf_alg e2]
/-- The state of the search at step n: the locator C of length at most L, the earlier one B. -/
structure Loc (N : Nat) (e : Nat → BitVec 8) (er : Nat → Bool) (M rho n L gap : Nat) (C B : Nat → BitVec 8) (last : BitVec 8) : Prop where
  c0 : C 0 = 1#8
  cd : ∀ k, L < k → C k = 0#8
  cg : ∀ j, j < N → er j = true → ev C M (eY N j) = 0#8
  cz : ∀ k, L ≤ k → k < n → dis N e M C k = 0#8
  l1 : rho ≤ L ∧ L ≤ n
  l2 : L ≤ (bad N e er).length + rho
  g1 : 1 ≤ gap
  la : last ≠ 0#8
  bg : ∀ j, j < N → er j = true → ev B M (eY N j) = 0#8
  b0 : (L = rho ∧ n + 1 = gap + rho ∧ (∀ k, rho < k → B k = 0#8)) ∨ ∃ LB, gap ≤ n ∧ L + LB + gap = n + 1 + rho ∧ (∀ k, LB < k → B k = 0#8) ∧ (∀ k, LB ≤ k → k + gap < n → dis N e M B k = 0#8) ∧ dis N e M B (n - gap) = last
/-- The start: the polynomial of the lost places. -/
theorem Loc.start {N M rho : Nat} {e : Nat → BitVec 8} {er : Nat → Bool} {G : Nat → BitVec 8} (g0 : G 0 = 1#8) (gd : ∀ k, rho < k → G k = 0#8) (gg : ∀ j, j < N → er j = true → ev G M (eY N j) = 0#8) : Loc N e er M rho rho rho 1 G G 1#8 :=
  ⟨g0, gd, gg, fun k h1 h2 => by omega, ⟨Nat.le_refl _, Nat.le_refl _⟩, by omega, by omega, by decide, gg, .inl ⟨rfl, by omega, gd⟩⟩
/-- Nothing wrong at this step. -/
theorem Loc.same {N M rho n L gap : Nat} {e : Nat → BitVec 8} {er : Nat → Bool} {C B : Nat → BitVec 8} {last : BitVec 8} (h : Loc N e er M rho n L gap C B last) (hd : dis N e M C n = 0#8) : Loc N e er M rho (n + 1) L (gap + 1) C B last := by
  refine ⟨h.c0, h.cd, h.cg, fun k h1 h2 => ?_, ⟨h.l1.1, by have := h.l1.2; omega⟩, h.l2, by omega, h.la, h.bg, ?_⟩
  · by_cases e : k = n
    · rw [e]; exact hd
    · exact h.cz k h1 (by omega)
  · rcases h.b0 with ⟨h1, h2, h3⟩ | ⟨LB, h1, h2, h3, h4, h5⟩
    · exact .inl ⟨h1, by omega, h3⟩
    · exact .inr ⟨LB, by omega, by omega, h3, fun k hk hk2 => h4 k hk (by omega), by rw [show n + 1 - (gap + 1) = n - gap by omega]; exact h5⟩
/-- The locator with what is wrong put right. -/
def fixd (C B : Nat → BitVec 8) (gap : Nat) (f : BitVec 8) (k : Nat) : BitVec 8 := C k ^^^ mulF f (shf gap B k)
theorem fixd_as (C B : Nat → BitVec 8) (gap : Nat) (f : BitVec 8) : fixd C B gap f = fun k => C k ^^^ (fun i => mulF f (shf gap B i)) k := rfl
/-- The bound: a change never makes the length greater than the errors ask. -/
theorem Loc.room {N M rho n L gap : Nat} {e : Nat → BitVec 8} {er : Nat → Bool} {C B : Nat → BitVec 8} {last : BitVec 8} (hN : N ≤ 255) (h : Loc N e er M rho n L gap C B last) (hd : dis N e M C n ≠ 0#8) : n + 1 ≤ (bad N e er).length + L := by
  refine Decidable.byContradiction fun hn => hd ?_
  exact dis_zero_all hN h.cg (n - (bad N e er).length) (fun k h1 h2 => h.cz k (by omega) (by omega)) n
theorem Loc.step {N M rho n L gap : Nat} {e : Nat → BitVec 8} {er : Nat → Bool} {C B : Nat → BitVec 8} {last : BitVec 8} (hN : N ≤ 255) (hM : n + 300 ≤ M) (h : Loc N e er M rho n L gap C B last) (hd : dis N e M C n ≠ 0#8) :
    Loc N e er M rho (n + 1) (if 2 * L ≤ n + rho then n + 1 + rho - L else L) (if 2 * L ≤ n + rho then 1 else gap + 1) (fixd C B gap (mulF (dis N e M C n) (iv last))) (if 2 * L ≤ n + rho then C else B) (if 2 * L ≤ n + rho then dis N e M C n else last) := by
  have room := h.room hN hd
  obtain ⟨h0, hcd, hcg, hcz, ⟨l1, l1'⟩, l2, g1, la, bg, b0⟩ := h
  obtain ⟨f, hf⟩ : ∃ f, f = mulF (dis N e M C n) (iv last) := ⟨_, rfl⟩
  rw [← hf]
  -- a bound for the length of the earlier one
  obtain ⟨LB, bl, bd⟩ : ∃ LB, L + LB + gap = n + 1 + rho ∧ ∀ k, LB < k → B k = 0#8 := by
    rcases b0 with ⟨h1, h2, h3⟩ | ⟨LB, h1, h2, h3, _, _⟩
    · exact ⟨rho, by omega, h3⟩
    · exact ⟨LB, h2, h3⟩
  have hle : LB + 1 + gap ≤ M := by omega
  have bz : ∀ i, LB + 1 ≤ i → B i = 0#8 := fun i hi => bd i (by omega)
  -- what is wrong with the new one
  have dnew : ∀ k, gap ≤ k → dis N e M (fixd C B gap f) k = dis N e M C k ^^^ mulF f (dis N e M B (k - gap)) := fun k hk => by
    rw [fixd_as, dis_xor (P := C) (Q := fun i => mulF f (shf gap B i)), dis_mul (P := shf gap B), dis_shf hle bz hk]
  have zn : ∀ k, (if 2 * L ≤ n + rho then n + 1 + rho - L else L) ≤ k → k < n + 1 → dis N e M (fixd C B gap f) k = 0#8 := fun k h1 h2 => by
    have hL : L ≤ k ∧ n + 1 + rho - L ≤ k := by
      split at h1
      · omega
      · omega
    rcases b0 with ⟨e1, e2, e3⟩ | ⟨LB', e1, e2, e3, e4, e5⟩
    · omega
    · have hg : gap ≤ k := by omega
      rw [dnew k hg]
      by_cases hk : k = n
      · subst hk
        rw [e5, hf, mulF_assoc, mulF_comm (iv last), iv_mul la, mulF_one, BitVec.xor_self]
      · rw [hcz k hL.1 (by omega), e4 (k - gap) (by omega) (by omega), mulF_zeroR, BitVec.xor_zero]
  have evn : ∀ y, ev (fixd C B gap f) M y = ev C M y ^^^ mulF f (mulF (pw y gap) (ev B M y)) := fun y => by
    rw [fixd_as, ev_xor (c := C) (d := fun i => mulF f (shf gap B i)), ev_mul (c := shf gap B), ev_shf hle bz]
  have gn : ∀ j, j < N → er j = true → ev (fixd C B gap f) M (eY N j) = 0#8 := fun j hj he => by
    rw [evn, hcg j hj he, bg j hj he, mulF_zeroR, mulF_zeroR, BitVec.xor_zero]
  have c0n : fixd C B gap f 0 = 1#8 := by
    unfold fixd shf
    rw [if_neg (by omega), mulF_zeroR, BitVec.xor_zero, h0]
  have cdn : ∀ k, (if 2 * L ≤ n + rho then n + 1 + rho - L else L) < k → fixd C B gap f k = 0#8 := fun k hk => by
    have hL : L < k ∧ LB + gap < k := by
      split at hk
      · omega
      · omega
    unfold fixd shf
    rw [if_pos (by omega), hcd k hL.1, bd (k - gap) (by omega), mulF_zeroR, BitVec.xor_zero]
  by_cases hc : 2 * L ≤ n + rho
  · simp only [if_pos hc] at zn cdn ⊢
    exact ⟨c0n, cdn, gn, zn, by omega, by omega, by omega, hd, hcg, .inr ⟨L, by omega, by omega, hcd, fun k h1 h2 => hcz k h1 (by omega), by rw [show n + 1 - 1 = n by omega]⟩⟩
  · simp only [if_neg hc] at zn cdn ⊢
    refine ⟨c0n, cdn, gn, zn, by omega, l2, by omega, la, bg, ?_⟩
    rcases b0 with ⟨e1, e2, e3⟩ | ⟨LB', e1, e2, e3, e4, e5⟩
    · omega
    · exact .inr ⟨LB', by omega, by omega, e3, fun k h1 h2 => e4 k h1 (by omega), by rw [show n + 1 - (gap + 1) = n - gap by omega]; exact e5⟩
/-- The end: the locator is zero at every error, and no longer than their number. -/
theorem Loc.found {N M rho t L gap : Nat} {e : Nat → BitVec 8} {er : Nat → Bool} {C B : Nat → BitVec 8} {last : BitVec 8} (hN : N ≤ 255) (h : Loc N e er M rho t L gap C B last) (ht : 2 * (bad N e er).length + rho ≤ t) : ∀ j, j < N → (e j ≠ 0#8 ∨ er j = true) → ev C M (eY N j) = 0#8 := by
  intro j hj hh
  have l2 := h.l2
  have hz := dis_zero hN h.cg (t - (bad N e er).length) (fun k h1 h2 => h.cz k (by omega) (by omega)) j hj
  rcases hh with hh | hh
  · exact mulF_zero hz hh
  · exact h.cg j hj hh
end Go.Proofs.Ythkilkjngincpaa
