/- Matrix codes: what is still true of modules, some of which are wrong. -/
import Derived.Test.YthkilkjngincpaaMtx7
namespace Go.Proofs.Ythkilkjngincpaa
open Go Go.Lite
set_option linter.unusedVariables false
set_option linter.unusedSimpArgs false
set_option maxRecDepth 100000
set_option maxHeartbeats 4000000

theorem upd_same {α : Type} {f : Nat → α} {a : Nat} {v : α} : upd f a v a = v := if_pos rfl
theorem upd_ne {α : Type} {f : Nat → α} {a j : Nat} {v : α} (h : j ≠ a) : upd f a v j = f j := if_neg h
/-- Bytes that are wrong. -/
structure MB (s : Nat) (W : Nat → BitVec 8) (on wrg : Nat → Bool) (left : Nat) : Prop where
  cnt : cntB wrg (mAll s) + left = mPar s / 2
  bits : ∀ k, k < 8 * mAll s → wrg (k / 8) = false → on (inK s k) = (W (k / 8)).getLsbD (7 - k % 8)
  bord : ∀ i, i < s * s → mBord s (i % s) (i / s) = true → on i = mDark s (i % s) (i / s)
theorem MB.start {s : Nat} {W : Nat → BitVec 8} (hs : Side s) : MB s W (fun i => mMod s W (i % s) (i / s)) (fun _ => false) (mPar s / 2) := by
  have hb := hs.bd
  have hA : mAll s = (s - 2) * (s - 2) / 8 := rfl
  refine ⟨?_, fun k hk _ => ?_, fun i _ hB => ?_⟩
  · have : cntB (fun _ => false) (mAll s) = 0 := by
      unfold cntB; rw [List.length_eq_zero_iff, List.filter_eq_nil_iff]; intro _ _; simp
    rw [this]; omega
  · obtain ⟨a1, a2, _, a4⟩ := inK_xy (s := s) (k := k) hb.1 (by omega)
    rw [a1, a2]
    exact mIn_mod (W := W) hb.1 hk
  · unfold mMod; rw [hB, if_pos rfl]
theorem MB.keep {s k left : Nat} {W : Nat → BitVec 8} {on wrg : Nat → Bool} {v : Bool} (hs : Side s) (h : MB s W on wrg left) (hk : k < 8 * mAll s) (hw : wrg (k / 8) = true) : MB s W (upd on (inK s k) v) wrg left := by
  have hb := hs.bd
  have hA : mAll s = (s - 2) * (s - 2) / 8 := rfl
  refine ⟨h.cnt, fun j hj hwj => ?_, fun i hi hB => ?_⟩
  · rw [upd_ne, h.bits j hj hwj]
    intro e
    have := inK_inj hb.1 (by omega) (by omega) e
    rw [this, hw] at hwj; cases hwj
  · rw [upd_ne, h.bord i hi hB]
    intro e
    obtain ⟨a1, a2, _, a4⟩ := inK_xy (s := s) (k := k) hb.1 (by omega)
    rw [e, a1, a2, a4] at hB; cases hB
theorem MB.more {s k left : Nat} {W : Nat → BitVec 8} {on wrg : Nat → Bool} (hs : Side s) (h : MB s W on wrg (left + 1)) (hk : k < 8 * mAll s) (hw : wrg (k / 8) = false) : MB s W on (upd wrg (k / 8) true) left := by
  refine ⟨?_, fun j hj hwj => ?_, h.bord⟩
  · have := cntB_one (p := wrg) (q := upd wrg (k / 8) true) (n := mAll s) (a := k / 8) (by omega) hw upd_same fun j hj => upd_ne hj
    have := h.cnt
    omega
  · by_cases e : j / 8 = k / 8
    · rw [e, upd_same] at hwj; cases hwj
    · rw [upd_ne e] at hwj; exact h.bits j hj hwj
theorem cntB_step {p q : Nat → Bool} {n a : Nat} (h : ∀ j, j ≠ a → q j = p j) : cntB q n ≤ cntB p n + 1 := by
  induction n with
  | zero => unfold cntB; simp
  | succ n ih =>
    rw [cntB_succ, cntB_succ]
    by_cases e : n = a
    · rw [cntB_congr (p := q) (q := p) fun j hj => h j (by omega)]
      split <;> split <;> omega
    · rw [h n e]; omega
/-- Modules as a function of the place. -/
def fOn (s : Nat) (on : Nat → Bool) (x y : Nat) : Bool := on (y * s + x)
theorem fOn_at {s : Nat} (on : Nat → Bool) (i : Nat) : fOn s on (i % s) (i / s) = on i := by
  unfold fOn
  rw [Nat.mul_comm, Nat.div_add_mod]
/-- Modules of the border that are wrong: at most n. -/
structure MO (s : Nat) (on0 on : Nat → Bool) (n : Nat) : Prop where
  inn : ∀ i, i < s * s → mBord s (i % s) (i / s) = false → on i = on0 i
  cnt : cntB (fun i => mBad s (fOn s on) (i % s) (i / s)) (s * s) ≤ n
theorem MO.start {s : Nat} {on : Nat → Bool} (hb : ∀ i, i < s * s → mBord s (i % s) (i / s) = true → on i = mDark s (i % s) (i / s)) : MO s on on 0 := by
  refine ⟨fun _ _ _ => rfl, ?_⟩
  rw [cntB_congr (q := fun _ => false) fun i hi => ?_]
  · unfold cntB; rw [Nat.le_zero, List.length_eq_zero_iff, List.filter_eq_nil_iff]; intro _ _; simp
  · unfold mBad
    rw [fOn_at]
    cases hB : mBord s (i % s) (i / s) with
    | false => rfl
    | true => rw [hb i hi hB]; simp
theorem MO.step {s n a : Nat} {on0 on : Nat → Bool} {v : Bool} (h : MO s on0 on n) (hB : mBord s (a % s) (a / s) = true) : MO s on0 (upd on a v) (n + 1) := by
  refine ⟨fun i hi hb => ?_, ?_⟩
  · rw [upd_ne, h.inn i hi hb]
    intro e; rw [e, hB] at hb; cases hb
  · refine Nat.le_trans (cntB_step (p := fun i => mBad s (fOn s on) (i % s) (i / s)) (a := a) fun j hj => ?_) (Nat.succ_le_succ h.cnt)
    unfold mBad
    rw [fOn_at, fOn_at, upd_ne hj]
/-- The bytes that are read. -/
def mRd (s : Nat) (on : Nat → Bool) (i : Nat) : BitVec 8 := BitVec.ofInt 8 ((bm (8 * mAll s) 1 fun i _ => mIn s (fOn s on) i).getD i 0)
theorem mRd_tab (s : Nat) (on : Nat → Bool) : (bm (8 * mAll s) 1 fun i _ => mIn s (fOn s on) i) = btab (mAll s) (mRd s on) := by
  refine is_tab 0 (by rw [bm_len]; unfold st; omega) fun i hi => ?_
  unfold mRd
  rw [by8_ofInt (bm_bd (by unfold st; omega))]
theorem mRd_bit {s k : Nat} {on : Nat → Bool} (hk : k < 8 * mAll s) : (mRd s on (k / 8)).getLsbD (7 - k % 8) = on (inK s k) := by
  have h1 := bm_pix (w := 8 * mAll s) (h := 1) (f := fun i _ => mIn s (fOn s on) i) (x := k) (y := 0) hk (by omega)
  have ea : at8 (8 * mAll s) k 0 = k / 8 := by unfold at8; omega
  rw [ea, mRd_tab, btab_get (by omega), bt_by8] at h1
  rw [h1]
  rfl
/-- Few bytes are read wrong. -/
theorem few_wrong {s left n : Nat} {W : Nat → BitVec 8} {on0 on wrg : Nat → Bool} (hs : Side s) (h : MB s W on0 wrg left) (g : MO s on0 on n) : cntB (fun j => decide (mRd s on j ^^^ W j ≠ 0#8)) (mAll s) ≤ mPar s / 2 := by
  have hb := hs.bd
  have hA : mAll s = (s - 2) * (s - 2) / 8 := rfl
  have hm : cntB (fun j => decide (mRd s on j ^^^ W j ≠ 0#8)) (mAll s) ≤ cntB wrg (mAll s) := cntB_mono fun j hj hp => by
    have hp := of_decide_eq_true hp
    cases hw : wrg j with
    | true => rfl
    | false =>
      refine absurd ?_ hp
      have e : mRd s on j = W j := by
        apply BitVec.eq_of_getLsbD_eq
        intro i hi
        have h1 := mRd_bit (s := s) (on := on) (k := 8 * j + (7 - i)) (by omega)
        have e1 : (8 * j + (7 - i)) / 8 = j := by omega
        have e2 : 7 - (8 * j + (7 - i)) % 8 = i := by omega
        have h2 := h.bits (8 * j + (7 - i)) (by omega) (by rw [e1]; exact hw)
        rw [e1, e2] at h1 h2
        obtain ⟨a1, a2, a3, a4⟩ := inK_xy (s := s) (k := 8 * j + (7 - i)) hb.1 (by omega)
        rw [h1, g.inn _ a3 (by rw [a1, a2]; exact a4), h2]
      rw [e, BitVec.xor_self]
  have := h.cnt
  omega
/-- The turned code, turned back. -/
theorem back_turn {s n t : Nat} {on0 on : Nat → Bool} (hs : Side s) (g : MO s on0 on n) (hn : n ≤ s / 4) (ht : t < 4) :
    mBest s (trn (s, s, bm s s (fOn s on)) t).2.2 4 = ((4 - t) % 4, mWr s (mPix s (trn (s, s, bm s s (fOn s on)) t).2.2 ((4 - t) % 4)) s) ∧
    mWr s (mPix s (trn (s, s, bm s s (fOn s on)) t).2.2 ((4 - t) % 4)) s ≤ (s : Int) / 4 ∧
    ∀ x y, x < s → y < s → mPix s (trn (s, s, bm s s (fOn s on)) t).2.2 ((4 - t) % 4) x y = fOn s on x y := by
  have hb := hs.bd
  have h0 : 0 < s := by omega
  have px0 : ∀ x y, x < s → y < s → (fun x y : Nat => px s s (bm s s (fOn s on)) x y) x y = fOn s on x y := fun x y hx hy => px_bm hx hy
  have pk : ∀ k, k < 4 → ∀ x y, x < s → y < s → mPix s (trn (s, s, bm s s (fOn s on)) t).2.2 k x y = rotN s (fOn s on) (t + k) x y := fun k hk x y hx hy => by
    unfold mPix
    rw [trn_rot h0 k hk hx hy, ← rotN_add]
    refine rotN_congr (fun x y hx hy => ?_) k x y hx hy
    show px s s (trn (s, s, bm s s (fOn s on)) t).2.2 x y = _
    rw [trn_rot h0 t ht hx hy]
    exact rotN_congr px0 t x y hx hy
  have r4 : ∀ x y, x < s → y < s → rotN s (fOn s on) 4 x y = fOn s on x y := fun x y hx hy => rotN_4 hx hy
  have big : ∀ r, 4 ≤ r → ∀ x y, x < s → y < s → rotN s (fOn s on) r x y = rotN s (fOn s on) (r - 4) x y := fun r hr x y hx hy => by
    have : rotN s (fOn s on) r = rotN s (rotN s (fOn s on) 4) (r - 4) := by rw [rotN_add]; congr 1; omega
    rw [this]
    exact rotN_congr r4 (r - 4) x y hx hy
  have good : ∀ x y, x < s → y < s → mPix s (trn (s, s, bm s s (fOn s on)) t).2.2 ((4 - t) % 4) x y = fOn s on x y := fun x y hx hy => by
    rw [pk _ (by omega) x y hx hy]
    by_cases e : t = 0
    · subst e; rfl
    · rw [show t + (4 - t) % 4 = 4 by omega]; exact r4 x y hx hy
  have e0 : mWr s (fOn s on) s ≤ (s : Int) / 4 := by
    rw [mWr_cnt h0]
    have := g.cnt
    omega
  have eg : mWr s (mPix s (trn (s, s, bm s s (fOn s on)) t).2.2 ((4 - t) % 4)) s = mWr s (fOn s on) s := mWr_congr good
  refine ⟨mBest_is (by omega) (by rw [eg]; omega) fun j hj hne => ?_, by rw [eg]; exact e0, good⟩
  rw [eg]
  have ej : ∃ r, 1 ≤ r ∧ r ≤ 3 ∧ ∀ x y, x < s → y < s → mPix s (trn (s, s, bm s s (fOn s on)) t).2.2 j x y = rotN s (fOn s on) r x y := by
    by_cases h : t + j < 4
    · exact ⟨t + j, by omega, by omega, pk j hj⟩
    · exact ⟨t + j - 4, by omega, by omega, fun x y hx hy => by rw [pk j hj x y hx hy]; exact big _ (by omega) x y hx hy⟩
  obtain ⟨r, r1, r2, r3⟩ := ej
  rw [mWr_congr r3]
  have := turned_worse hs e0 r1 r2
  omega
/-- A list of places of the border. -/
structure Outer (s : Nat) (o : List Int) : Prop where
  at_ : ∀ j, j < o.length → ∃ a : Nat, o.getD j 0 = (a : Int) ∧ a < s * s ∧ mBord s (a % s) (a / s) = true
theorem Outer.nil (s : Nat) : Outer s [] := ⟨fun j hj => absurd hj (by simp)⟩
end Go.Proofs.Ythkilkjngincpaa
