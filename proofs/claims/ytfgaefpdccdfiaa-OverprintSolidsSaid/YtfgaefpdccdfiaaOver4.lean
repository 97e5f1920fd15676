/- Predict and Mean: the colour of halftones, the mean of a sheet. -/
import Derived.Test.YtfgaefpdccdfiaaOver3
import Derived.Test.YtfgaefpdccdfiaaRef1
import Derived.Test.YtfgaefpdccdfiaaRPow
import Derived.Test.YtfgaefpdccdfiaaXOverprintSolids0
namespace Go.Proofs.Ytfgaefpdccdfiaa
open Go Go.Lite
set_option linter.unusedVariables false
set_option linter.unusedSimpArgs false
set_option maxRecDepth 100000
set_option maxHeartbeats 4000000
-- @simp rdi rd3i rdy

abbrev Lb := Int × Int × Int
abbrev dL : Lb := (0, 0, 0)
def lE (c : Lb) : Int := labE c.1 c.2.1 c.2.2
/-- What the first colour that is none says. -/
def solE (l : List Lb) : Int := match l.find? (fun c => decide (lE c ≠ 0)) with
  | some c => lE c
  | none => 0
theorem solE_at {l : List Lb} {i : Nat} (hi : i < l.length) (h : ∀ j, j < i → lE (l.getD j dL) = 0) (hn : lE (l.getD i dL) ≠ 0) : solE l = lE (l.getD i dL) := by
  unfold solE
  have : l.find? (fun c => decide (lE c ≠ 0)) = some (l.getD i dL) := by
    rw [List.find?_eq_some_iff_getElem]
    refine ⟨by simpa using hn, i, hi, (getD_get dL hi).symm, fun j hj => ?_⟩
    have := h j hj
    rw [getD_get dL (by omega)] at this
    simpa using this
  rw [this]
theorem solE_ok {l : List Lb} (h : ∀ j, j < l.length → lE (l.getD j dL) = 0) : solE l = 0 := by
  unfold solE
  have : l.find? (fun c => decide (lE c ≠ 0)) = none := by
    rw [List.find?_eq_none]
    intro c hc
    obtain ⟨j, hj, rfl⟩ := mem_getD (d := dL) hc
    simpa using h j hj
  rw [this]
theorem lE_c (c : Lb) : TC R Try.prog refspace_Check_f [.agg [.int .i64 c.1, .int .i64 c.2.1, .int .i64 c.2.2]] [] (fun v X => v = .int .i64 (lE c) ∧ X = []) := refCheck_c _ _ _
theorem lab_bd {c : Lb} (h : lE c = 0) : 0 ≤ c.1 ∧ c.1 ≤ 10000 ∧ -12800 ≤ c.2.1 ∧ c.2.1 ≤ 12800 ∧ -12800 ≤ c.2.2 ∧ c.2.2 ≤ 12800 := labE_ok.1 h

/-- A weighted sum, in bounds. -/
theorem wsum_bd {w f : Nat → Int} {B : Int} (hB : 0 ≤ B) : ∀ {n : Nat}, (∀ i, i < n → 0 ≤ w i ∧ -B ≤ f i ∧ f i ≤ B) → -(B * sumN w n) ≤ sumN (fun i => w i * f i) n ∧ sumN (fun i => w i * f i) n ≤ B * sumN w n
  | 0, _ => by simp [sumN]
  | n + 1, h => by
    have ih := wsum_bd hB (n := n) fun i hi => h i (by omega)
    obtain ⟨h1, h2, h3⟩ := h n (by omega)
    simp only [sumN]
    have p1 : w n * f n ≤ w n * B := Int.mul_le_mul_of_nonneg_left h3 h1
    have p2 : w n * -B ≤ w n * f n := Int.mul_le_mul_of_nonneg_left h2 h1
    rw [Int.mul_neg] at p2
    rw [Int.mul_add, Int.mul_comm B (w n)]
    omega
/-- The colour that weights mix. -/
def mixL (w : Nat → Int) (l : List Lb) (n : Nat) (d : Int) : List (TV A) := [.int .i64 (near (sumN (fun i => w i * (l.getD i dL).1) n) d), .int .i64 (near (sumN (fun i => w i * (l.getD i dL).2.1) n) d), .int .i64 (near (sumN (fun i => w i * (l.getD i dL).2.2) n) d)]

theorem predict_y (l : List Lb) (t : List Int) (ht : inTone t) (h1 : 1 ≤ t.length) (h3 : t.length ≤ 3) (hl : l.length = 2 ^ t.length) :
    TC R Try.prog overprint_Predict_f [.lst E3i l, .lst Ei t] [] (fun v X => v = (if solE l = 0 then .tup [.agg (mixL (wS t t.length) l (2 ^ t.length) (255 ^ t.length)), .int .i64 0] else .tup [.agg [.int .i64 0, .int .i64 0, .int .i64 0], .int .i64 (solE l)]) ∧ X = []) := by
  have e := ovCheck_c t (by unfold Due; omega)
  rw [show ovE t = 0 from ovE_ok.2 ⟨h1, by omega, ht⟩] at e
  have hp : (2 : Nat) ^ t.length ≤ 8 := Nat.pow_le_pow_right (n := 2) (by omega) h3
  have h2 : (2 : Int) ^ t.length = (l.length : Int) := by rw [hl]; simp
  have sh := shares_c t ht (by unfold Due; omega)
  have h255 : (255 : Int) ^ t.length ≤ 16581375 := (pow_mono (a := 255) (by omega) h3).1
  have hw : ∀ i, 0 ≤ wS t t.length i := fun i => (wS_bd ht t.length i (Nat.le_refl _)).1
  have hpart : ∀ i, i ≤ 2 ^ t.length → 0 ≤ sumN (wS t t.length) i ∧ sumN (wS t t.length) i ≤ 16581375 := fun i hi => by
    have := wS_part ht (Nat.le_refl t.length) hi; omega
  have hsum := wS_sum t t.length
  have h1p : 1 ≤ (255 : Int) ^ t.length := (pow_mono (a := 255) (by omega) h3).2
  have hwg : ∀ i, i < 2 ^ t.length → (tab (2 ^ t.length) (wS t t.length)).getD i 0 = wS t t.length i := fun i hi => tab_get hi
  have hwl : (tab (2 ^ t.length) (wS t t.length)).length = 2 ^ t.length := tab_len
  rw [← hl] at *
  generalize (255 : Int) ^ t.length = D at *
  generalize tab l.length (wS t t.length) = W at *
  generalize wS t t.length = w at *
  refine tc0 env overprint_Predict_s (by rfl) ?_
  dsimp only [overprint_Predict_c]
  repeat' (first
    | ((with_reducible refine TOps.any ?_); refine TOps.callV env (by rfl) (by rfl) (by rfl) (e) ?_)
    | with_reducible first | refine Tw.seq ?_ | refine Tw.reg ?_ | refine Tw.block ?_ | refine Tw.scope ?_ | refine Tw.skip ?_ | refine Tw.exit ?_ | refine Tw.ret ?_ | refine seqN ?_ | refine seqR ?_ | refine seqE ?_ | refine blkN ?_ | refine blkR ?_ | refine blkE1 ?_ | refine blkE0 (by kernel_rfl) ?_ | refine scpN ?_ | refine scpR ?_ | refine scpE ?_ | refine TOps.nil ?_ | exact Conj.nil | refine Conj.cons rfl ?_ | refine Conj.same ?_ | refine Conj.ask ?_ ?_ | refine Tw.regd env ?_ | refine TDr.nil ⟨by kernel_rfl, ?_⟩
    | ((with_reducible refine TOps.any ?_); first | refine TOps.frunP env (by rfl) (by rfl) ?_ ?_ | refine TOps.strip env (by rfl) (by rfl) ?_ ?_)
    | ((with_reducible refine TDr.any ?_); refine TDr.frunP env (by rfl) (by rfl) ?_ ?_)
    | ((with_reducible refine Tw.any ?_); first | refine Tw.condT (by rfl) ?_ | refine Tw.condF (by rfl) ?_)
    | ((first | ((with_reducible refine TOps.any ?_); (fail_if_success refine TOps.known (by rfl) ?_); refine TOps.ask (by rfl) (fun h => ?_) (fun h => ?_)) | ((with_reducible refine TDr.any ?_); (fail_if_success refine TDr.known (by first | rfl | assumption) ?_); refine TDr.ask (by rfl) (fun h hk => ?_) (fun h => ?_)) | ((with_reducible refine Tw.any ?_); refine Tw.cond (by rfl) (fun h => ?_) (fun h => ?_))) <;> (try simp only [goS] at h) <;> (try simp only [rdi, rd3i, rdy, h2, Int.toNat_natCast, Nat.add_zero] at h) <;> (try (exfalso; (try simp only [goP, reduceCtorEq] at h) <;> (first | assumption | omega | contradiction | (rcases h with ⟨_, _⟩ <;> first | contradiction | omega) | (rcases h with h | h <;> first | contradiction | omega)))))
    | ((with_reducible refine tret.any ?_); first | refine tret.ok (by rfl) ?_ | refine tret.okN (by rfl) ?_)
    | ((with_reducible refine Due.mk ?_); (first | with_reducible rfl | omega | assumption | decide | ((try simp only [goS] at *) <;> (try intro h) <;> (try intro h') <;> (try simp only [goS] at *) <;> (try simp only [rdi, rd3i, rdy, h2, Int.toNat_natCast, Nat.add_zero] at *) <;> (try simp only [rng]) <;> (first | assumption | omega)) | (exact due_app0 (by omega)) | (exact due_app (by omega)) | (intros; simp; done) | (intros; simp; omega)))
    | with_reducible refine Due.mk ?_
    | omega)
  refine Tw.loopK [0, 1, 4, 27, 28] (fun i : Nat => i ≤ l.length ∧ ∀ j, j < i → lE (l.getD j dL) = 0) (fun i => l.length - i) (fun i => [(29, .int .i64 i)]) (fun _ => [some (.cells [.int .i64 0, .int .i64 0, .int .i64 0])]) ⟨0, ⟨by omega, fun j hj => by omega⟩, TWk.fcanon env [some 0] (by rfl) ?_⟩ (fun i hi => ?_)
  · repeat' (first
      | with_reducible first | refine Tw.seq ?_ | refine Tw.reg ?_ | refine Tw.block ?_ | refine Tw.scope ?_ | refine Tw.skip ?_ | refine Tw.exit ?_ | refine Tw.ret ?_ | refine seqN ?_ | refine seqR ?_ | refine seqE ?_ | refine blkN ?_ | refine blkR ?_ | refine blkE1 ?_ | refine blkE0 (by kernel_rfl) ?_ | refine scpN ?_ | refine scpR ?_ | refine scpE ?_ | refine TOps.nil ?_ | exact Conj.nil | refine Conj.cons rfl ?_ | refine Conj.same ?_ | refine Conj.ask ?_ ?_ | refine Tw.regd env ?_ | refine TDr.nil ⟨by kernel_rfl, ?_⟩
      | ((with_reducible refine TOps.any ?_); first | refine TOps.frunP env (by rfl) (by rfl) ?_ ?_ | refine TOps.strip env (by rfl) (by rfl) ?_ ?_)
      | ((with_reducible refine TDr.any ?_); refine TDr.frunP env (by rfl) (by rfl) ?_ ?_)
      | ((with_reducible refine Tw.any ?_); first | refine Tw.condT (by rfl) ?_ | refine Tw.condF (by rfl) ?_)
      | ((first | ((with_reducible refine TOps.any ?_); (fail_if_success refine TOps.known (by rfl) ?_); refine TOps.ask (by rfl) (fun h => ?_) (fun h => ?_)) | ((with_reducible refine TDr.any ?_); (fail_if_success refine TDr.known (by first | rfl | assumption) ?_); refine TDr.ask (by rfl) (fun h hk => ?_) (fun h => ?_)) | ((with_reducible refine Tw.any ?_); refine Tw.cond (by rfl) (fun h => ?_) (fun h => ?_))) <;> (try simp only [goS] at h) <;> (try simp only [rdi, rd3i, rdy, Int.toNat_natCast, Nat.add_zero] at h))
      | ((with_reducible refine tret.any ?_); first | refine tret.ok (by rfl) ?_ | refine tret.okN (by rfl) ?_)
      | ((with_reducible refine Due.mk ?_); (first | with_reducible rfl | omega | assumption | decide | ((try simp only [goS] at *) <;> (try intro h) <;> (try intro h') <;> (try simp only [goS] at *) <;> (try simp only [rdi, rd3i, rdy, Int.toNat_natCast, Nat.add_zero] at *) <;> (try simp only [rng]) <;> (first | assumption | omega)) | (exact due_app0 (by omega)) | (exact due_app (by omega)) | (intros; simp; done) | (intros; simp; omega)))
      | with_reducible refine Due.mk ?_
      | omega)
  obtain ⟨hi, hq⟩ := hi
  rcases Nat.lt_or_ge i l.length with hi | hi
  · repeat' (first
      | ((with_reducible refine TOps.any ?_); refine TOps.callV env (by rfl) (by rfl) (by rfl) (lE_c (l.getD i dL)) ?_)
      | with_reducible first | refine Tw.seq ?_ | refine Tw.reg ?_ | refine Tw.block ?_ | refine Tw.scope ?_ | refine Tw.skip ?_ | refine Tw.exit ?_ | refine Tw.ret ?_ | refine seqN ?_ | refine seqR ?_ | refine seqE ?_ | refine blkN ?_ | refine blkR ?_ | refine blkE1 ?_ | refine blkE0 (by kernel_rfl) ?_ | refine scpN ?_ | refine scpR ?_ | refine scpE ?_ | refine TOps.nil ?_ | exact Conj.nil | refine Conj.cons rfl ?_ | refine Conj.same ?_ | refine Conj.ask ?_ ?_ | refine Tw.regd env ?_ | refine TDr.nil ⟨by kernel_rfl, ?_⟩
      | ((with_reducible refine TOps.any ?_); first | refine TOps.frunP env (by rfl) (by rfl) ?_ ?_ | refine TOps.strip env (by rfl) (by rfl) ?_ ?_)
      | ((with_reducible refine TDr.any ?_); refine TDr.frunP env (by rfl) (by rfl) ?_ ?_)
      | ((with_reducible refine Tw.any ?_); first | refine Tw.condT (by rfl) ?_ | refine Tw.condF (by rfl) ?_)
      | ((first | ((with_reducible refine TOps.any ?_); (fail_if_success refine TOps.known (by rfl) ?_); refine TOps.ask (by rfl) (fun h => ?_) (fun h => ?_)) | ((with_reducible refine TDr.any ?_); (fail_if_success refine TDr.known (by first | rfl | assumption) ?_); refine TDr.ask (by rfl) (fun h hk => ?_) (fun h => ?_)) | ((with_reducible refine Tw.any ?_); refine Tw.cond (by rfl) (fun h => ?_) (fun h => ?_))) <;> (try simp only [goS] at h) <;> (try simp only [rdi, rd3i, rdy, Int.toNat_natCast, Nat.add_zero] at h) <;> (try (exfalso; (try simp only [goP, reduceCtorEq] at h) <;> (first | assumption | omega | contradiction | (rcases h with ⟨_, _⟩ <;> first | contradiction | omega) | (rcases h with h | h <;> first | contradiction | omega)))))
      | ((with_reducible refine tret.any ?_); first | refine tret.ok (by rfl) ?_ | refine tret.okN (by rfl) ?_)
      | ((with_reducible refine Due.mk ?_); (first | with_reducible rfl | omega | assumption | decide | ((try simp only [goS] at *) <;> (try intro h) <;> (try intro h') <;> (try simp only [goS] at *) <;> (try simp only [rdi, rd3i, rdy, Int.toNat_natCast, Nat.add_zero] at *) <;> (try simp only [rng]) <;> (first | assumption | omega)) | (exact due_app0 (by omega)) | (exact due_app (by omega)) | (intros; simp; done) | (intros; simp; omega)))
      | with_reducible refine Due.mk ?_
      | omega)
    · have hs := solE_at hi hq h
      rw [if_neg (by rw [hs]; exact h), hs]
      exact ⟨rfl, rfl, rfl⟩
    · refine ⟨i + 1, ⟨by omega, fun j hj => ?_⟩, by omega, TWk.fcanon env [some 0] (by rfl) ?_⟩
      · by_cases e : j = i
        · subst e; exact h
        · exact hq j (by omega)
      · repeat' (first
          | with_reducible first | refine Tw.seq ?_ | refine Tw.reg ?_ | refine Tw.block ?_ | refine Tw.scope ?_ | refine Tw.skip ?_ | refine Tw.exit ?_ | refine Tw.ret ?_ | refine seqN ?_ | refine seqR ?_ | refine seqE ?_ | refine blkN ?_ | refine blkR ?_ | refine blkE1 ?_ | refine blkE0 (by kernel_rfl) ?_ | refine scpN ?_ | refine scpR ?_ | refine scpE ?_ | refine TOps.nil ?_ | exact Conj.nil | refine Conj.cons rfl ?_ | refine Conj.same ?_ | refine Conj.ask ?_ ?_ | refine Tw.regd env ?_ | refine TDr.nil ⟨by kernel_rfl, ?_⟩
          | ((with_reducible refine TOps.any ?_); first | refine TOps.frunP env (by rfl) (by rfl) ?_ ?_ | refine TOps.strip env (by rfl) (by rfl) ?_ ?_)
          | ((with_reducible refine TDr.any ?_); refine TDr.frunP env (by rfl) (by rfl) ?_ ?_)
          | ((with_reducible refine Tw.any ?_); first | refine Tw.condT (by rfl) ?_ | refine Tw.condF (by rfl) ?_)
          | ((first | ((with_reducible refine TOps.any ?_); (fail_if_success refine TOps.known (by rfl) ?_); refine TOps.ask (by rfl) (fun h => ?_) (fun h => ?_)) | ((with_reducible refine TDr.any ?_); (fail_if_success refine TDr.known (by first | rfl | assumption) ?_); refine TDr.ask (by rfl) (fun h hk => ?_) (fun h => ?_)) | ((with_reducible refine Tw.any ?_); refine Tw.cond (by rfl) (fun h => ?_) (fun h => ?_))) <;> (try simp only [goS] at h) <;> (try simp only [rdi, rd3i, rdy, Int.toNat_natCast, Nat.add_zero] at h))
          | ((with_reducible refine tret.any ?_); first | refine tret.ok (by rfl) ?_ | refine tret.okN (by rfl) ?_)
          | ((with_reducible refine Due.mk ?_); (first | with_reducible rfl | omega | assumption | decide | ((try simp only [goS] at *) <;> (try intro h) <;> (try intro h') <;> (try simp only [goS] at *) <;> (try simp only [rdi, rd3i, rdy, Int.toNat_natCast, Nat.add_zero] at *) <;> (try simp only [rng]) <;> (first | assumption | omega)) | (exact due_app0 (by omega)) | (exact due_app (by omega)) | (intros; simp; done) | (intros; simp; omega)))
          | with_reducible refine Due.mk ?_
          | omega)
  have hok : ∀ j, j < l.length → lE (l.getD j dL) = 0 := fun j hj => hq j (by omega)
  rw [if_pos (solE_ok hok)]
  have s1 : ∀ i, i ≤ l.length → -(12800 * 16581375) ≤ sumN (fun i => w i * (l.getD i dL).1) i ∧ sumN (fun i => w i * (l.getD i dL).1) i ≤ 12800 * 16581375 := fun i hi => by
    have := wsum_bd (w := w) (f := fun i => (l.getD i dL).1) (B := 12800) (by omega) (n := i) fun j hj => by have := lab_bd (hok j (by omega)); have := hw j; omega
    have := hpart i hi
    omega
  have s2 : ∀ i, i ≤ l.length → -(12800 * 16581375) ≤ sumN (fun i => w i * (l.getD i dL).2.1) i ∧ sumN (fun i => w i * (l.getD i dL).2.1) i ≤ 12800 * 16581375 := fun i hi => by
    have := wsum_bd (w := w) (f := fun i => (l.getD i dL).2.1) (B := 12800) (by omega) (n := i) fun j hj => by have := lab_bd (hok j (by omega)); have := hw j; omega
    have := hpart i hi
    omega
  have s3 : ∀ i, i ≤ l.length → -(12800 * 16581375) ≤ sumN (fun i => w i * (l.getD i dL).2.2) i ∧ sumN (fun i => w i * (l.getD i dL).2.2) i ≤ 12800 * 16581375 := fun i hi => by
    have := wsum_bd (w := w) (f := fun i => (l.getD i dL).2.2) (B := 12800) (by omega) (n := i) fun j hj => by have := lab_bd (hok j (by omega)); have := hw j; omega
    have := hpart i hi
    omega
  repeat' (first
    | ((with_reducible refine TOps.any ?_); refine TOps.callV env (by rfl) (by rfl) (by rfl) (sh) ?_)
    | with_reducible first | refine Tw.seq ?_ | refine Tw.reg ?_ | refine Tw.block ?_ | refine Tw.scope ?_ | refine Tw.skip ?_ | refine Tw.exit ?_ | refine Tw.ret ?_ | refine seqN ?_ | refine seqR ?_ | refine seqE ?_ | refine blkN ?_ | refine blkR ?_ | refine blkE1 ?_ | refine blkE0 (by kernel_rfl) ?_ | refine scpN ?_ | refine scpR ?_ | refine scpE ?_ | refine TOps.nil ?_ | exact Conj.nil | refine Conj.cons rfl ?_ | refine Conj.same ?_ | refine Conj.ask ?_ ?_ | refine Tw.regd env ?_ | refine TDr.nil ⟨by kernel_rfl, ?_⟩
    | ((with_reducible refine TOps.any ?_); first | refine TOps.frunP env (by rfl) (by rfl) ?_ ?_ | refine TOps.strip env (by rfl) (by rfl) ?_ ?_)
    | ((with_reducible refine TDr.any ?_); refine TDr.frunP env (by rfl) (by rfl) ?_ ?_)
    | ((with_reducible refine Tw.any ?_); first | refine Tw.condT (by rfl) ?_ | refine Tw.condF (by rfl) ?_)
    | ((first | ((with_reducible refine TOps.any ?_); (fail_if_success refine TOps.known (by rfl) ?_); refine TOps.ask (by rfl) (fun h => ?_) (fun h => ?_)) | ((with_reducible refine TDr.any ?_); (fail_if_success refine TDr.known (by first | rfl | assumption) ?_); refine TDr.ask (by rfl) (fun h hk => ?_) (fun h => ?_)) | ((with_reducible refine Tw.any ?_); refine Tw.cond (by rfl) (fun h => ?_) (fun h => ?_))) <;> (try simp only [goS] at h) <;> (try simp only [rdi, rd3i, rdy, Int.toNat_natCast, Nat.add_zero] at h) <;> (try (exfalso; (try simp only [goP, reduceCtorEq] at h) <;> (first | assumption | omega | contradiction | (rcases h with ⟨_, _⟩ <;> first | contradiction | omega) | (rcases h with h | h <;> first | contradiction | omega)))))
    | ((with_reducible refine tret.any ?_); first | refine tret.ok (by rfl) ?_ | refine tret.okN (by rfl) ?_)
    | ((with_reducible refine Due.mk ?_); (first | with_reducible rfl | omega | assumption | decide | ((try simp only [goS] at *) <;> (try intro h) <;> (try intro h') <;> (try simp only [goS] at *) <;> (try simp only [rdi, rd3i, rdy, Int.toNat_natCast, Nat.add_zero] at *) <;> (try simp only [rng]) <;> (first | assumption | omega)) | (exact due_app0 (by omega)) | (exact due_app (by omega)) | (intros; simp; done) | (intros; simp; omega)))
    | with_reducible refine Due.mk ?_
    | omega)
  refine Tw.loopK [0, 4, 42, 43, 11] (fun i : Nat => i ≤ l.length) (fun i => l.length - i) (fun i => [(10, .int .i64 (sumN w i)), (44, .int .i64 i)])
    (fun i => [some (.cells [.int .i64 0, .int .i64 0, .int .i64 0]), some (.cells [.int .i64 (sumN (fun i => w i * (l.getD i dL).1) i), .int .i64 (sumN (fun i => w i * (l.getD i dL).2.1) i), .int .i64 (sumN (fun i => w i * (l.getD i dL).2.2) i)])]) ⟨0, by omega, TWk.fcanon env [some 0, some 1] (by rfl) ?_⟩ (fun i hi => ?_)
  · repeat' (first
      | with_reducible first | refine Tw.seq ?_ | refine Tw.reg ?_ | refine Tw.block ?_ | refine Tw.scope ?_ | refine Tw.skip ?_ | refine Tw.exit ?_ | refine Tw.ret ?_ | refine seqN ?_ | refine seqR ?_ | refine seqE ?_ | refine blkN ?_ | refine blkR ?_ | refine blkE1 ?_ | refine blkE0 (by kernel_rfl) ?_ | refine scpN ?_ | refine scpR ?_ | refine scpE ?_ | refine TOps.nil ?_ | exact Conj.nil | refine Conj.cons rfl ?_ | refine Conj.same ?_ | refine Conj.ask ?_ ?_ | refine Tw.regd env ?_ | refine TDr.nil ⟨by kernel_rfl, ?_⟩
      | ((with_reducible refine TOps.any ?_); first | refine TOps.frunP env (by rfl) (by rfl) ?_ ?_ | refine TOps.strip env (by rfl) (by rfl) ?_ ?_)
      | ((with_reducible refine TDr.any ?_); refine TDr.frunP env (by rfl) (by rfl) ?_ ?_)
      | ((with_reducible refine Tw.any ?_); first | refine Tw.condT (by rfl) ?_ | refine Tw.condF (by rfl) ?_)
      | ((first | ((with_reducible refine TOps.any ?_); (fail_if_success refine TOps.known (by rfl) ?_); refine TOps.ask (by rfl) (fun h => ?_) (fun h => ?_)) | ((with_reducible refine TDr.any ?_); (fail_if_success refine TDr.known (by first | rfl | assumption) ?_); refine TDr.ask (by rfl) (fun h hk => ?_) (fun h => ?_)) | ((with_reducible refine Tw.any ?_); refine Tw.cond (by rfl) (fun h => ?_) (fun h => ?_))) <;> (try simp only [goS] at h) <;> (try simp only [rdi, rd3i, rdy, Int.toNat_natCast, Nat.add_zero] at h))
      | ((with_reducible refine tret.any ?_); first | refine tret.ok (by rfl) ?_ | refine tret.okN (by rfl) ?_)
      | ((with_reducible refine Due.mk ?_); (first | with_reducible rfl | omega | assumption | decide | ((try simp only [goS] at *) <;> (try intro h) <;> (try intro h') <;> (try simp only [goS] at *) <;> (try simp only [rdi, rd3i, rdy, Int.toNat_natCast, Nat.add_zero] at *) <;> (try simp only [rng]) <;> (first | assumption | omega)) | (exact due_app0 (by omega)) | (exact due_app (by omega)) | (intros; simp; done) | (intros; simp; omega)))
      | with_reducible refine Due.mk ?_
      | omega)
  rcases Nat.lt_or_ge i l.length with hi | hi
  · have e1 := hwg i hi
    have a0 := hpart i (by omega)
    have b0 := hpart (i + 1) (by omega)
    have a1 := s1 i (by omega)
    have a2 := s2 i (by omega)
    have a3 := s3 i (by omega)
    have b1 := s1 (i + 1) (by omega)
    have b2 := s2 (i + 1) (by omega)
    have b3 := s3 (i + 1) (by omega)
    have c0 : sumN w (i + 1) = sumN w i + w i := rfl
    have c1 : sumN (fun i => w i * (l.getD i dL).1) (i + 1) = sumN (fun i => w i * (l.getD i dL).1) i + w i * (l.getD i dL).1 := rfl
    have c2 : sumN (fun i => w i * (l.getD i dL).2.1) (i + 1) = sumN (fun i => w i * (l.getD i dL).2.1) i + w i * (l.getD i dL).2.1 := rfl
    have c3 : sumN (fun i => w i * (l.getD i dL).2.2) (i + 1) = sumN (fun i => w i * (l.getD i dL).2.2) i + w i * (l.getD i dL).2.2 := rfl
    rw [c0] at b0; rw [c1] at b1; rw [c2] at b2; rw [c3] at b3
    have p1 : -9223372036854775808 ≤ W.getD i 0 * (l.getD i dL).1 ∧ W.getD i 0 * (l.getD i dL).1 ≤ 9223372036854775807 := by rw [e1]; omega
    have p2 : -9223372036854775808 ≤ W.getD i 0 * (l.getD i dL).2.1 ∧ W.getD i 0 * (l.getD i dL).2.1 ≤ 9223372036854775807 := by rw [e1]; omega
    have p3 : -9223372036854775808 ≤ W.getD i 0 * (l.getD i dL).2.2 ∧ W.getD i 0 * (l.getD i dL).2.2 ≤ 9223372036854775807 := by rw [e1]; omega
    have q1 : -9223372036854775808 ≤ sumN (fun i => w i * (l.getD i dL).1) i + W.getD i 0 * (l.getD i dL).1 ∧ sumN (fun i => w i * (l.getD i dL).1) i + W.getD i 0 * (l.getD i dL).1 ≤ 9223372036854775807 := by rw [e1]; omega
    have q2 : -9223372036854775808 ≤ sumN (fun i => w i * (l.getD i dL).2.1) i + W.getD i 0 * (l.getD i dL).2.1 ∧ sumN (fun i => w i * (l.getD i dL).2.1) i + W.getD i 0 * (l.getD i dL).2.1 ≤ 9223372036854775807 := by rw [e1]; omega
    have q3 : -9223372036854775808 ≤ sumN (fun i => w i * (l.getD i dL).2.2) i + W.getD i 0 * (l.getD i dL).2.2 ∧ sumN (fun i => w i * (l.getD i dL).2.2) i + W.getD i 0 * (l.getD i dL).2.2 ≤ 9223372036854775807 := by rw [e1]; omega
    repeat' (first
      | exact p1
      | exact p2
      | exact p3
      | exact q1
      | exact q2
      | exact q3
      | with_reducible first | refine Tw.seq ?_ | refine Tw.reg ?_ | refine Tw.block ?_ | refine Tw.scope ?_ | refine Tw.skip ?_ | refine Tw.exit ?_ | refine Tw.ret ?_ | refine seqN ?_ | refine seqR ?_ | refine seqE ?_ | refine blkN ?_ | refine blkR ?_ | refine blkE1 ?_ | refine blkE0 (by kernel_rfl) ?_ | refine scpN ?_ | refine scpR ?_ | refine scpE ?_ | refine TOps.nil ?_ | exact Conj.nil | refine Conj.cons rfl ?_ | refine Conj.same ?_ | refine Conj.ask ?_ ?_ | refine Tw.regd env ?_ | refine TDr.nil ⟨by kernel_rfl, ?_⟩
      | ((with_reducible refine TOps.any ?_); first | refine TOps.frunP env (by rfl) (by rfl) ?_ ?_ | refine TOps.strip env (by rfl) (by rfl) ?_ ?_)
      | ((with_reducible refine TDr.any ?_); refine TDr.frunP env (by rfl) (by rfl) ?_ ?_)
      | ((with_reducible refine Tw.any ?_); first | refine Tw.condT (by rfl) ?_ | refine Tw.condF (by rfl) ?_)
      | ((first | ((with_reducible refine TOps.any ?_); (fail_if_success refine TOps.known (by rfl) ?_); refine TOps.ask (by rfl) (fun h => ?_) (fun h => ?_)) | ((with_reducible refine TDr.any ?_); (fail_if_success refine TDr.known (by first | rfl | assumption) ?_); refine TDr.ask (by rfl) (fun h hk => ?_) (fun h => ?_)) | ((with_reducible refine Tw.any ?_); refine Tw.cond (by rfl) (fun h => ?_) (fun h => ?_))) <;> (try simp only [goS] at h) <;> (try simp only [rdi, rd3i, rdy, Int.toNat_natCast, Nat.add_zero] at h) <;> (try (exfalso; (try simp only [goP, reduceCtorEq] at h) <;> (first | assumption | omega | contradiction | (rcases h with ⟨_, _⟩ <;> first | contradiction | omega) | (rcases h with h | h <;> first | contradiction | omega)))))
      | ((with_reducible refine tret.any ?_); first | refine tret.ok (by rfl) ?_ | refine tret.okN (by rfl) ?_)
      | ((with_reducible refine Due.mk ?_); (first | with_reducible rfl | omega | assumption | decide | ((try simp only [goS] at *) <;> (try intro h) <;> (try intro h') <;> (try simp only [goS] at *) <;> (try simp only [rdi, rd3i, rdy, Int.toNat_natCast, Nat.add_zero] at *) <;> (try simp only [rng]) <;> (first | assumption | omega)) | (exact due_app0 (by omega)) | (exact due_app (by omega)) | (intros; simp; done) | (intros; simp; omega)))
      | with_reducible refine Due.mk ?_
      | omega)
    refine ⟨i + 1, by omega, by omega, TWk.fcanon env [some 0, some 1] (by rfl) ?_⟩
    repeat' (first
      | with_reducible first | refine Tw.seq ?_ | refine Tw.reg ?_ | refine Tw.block ?_ | refine Tw.scope ?_ | refine Tw.skip ?_ | refine Tw.exit ?_ | refine Tw.ret ?_ | refine seqN ?_ | refine seqR ?_ | refine seqE ?_ | refine blkN ?_ | refine blkR ?_ | refine blkE1 ?_ | refine blkE0 (by kernel_rfl) ?_ | refine scpN ?_ | refine scpR ?_ | refine scpE ?_ | refine TOps.nil ?_ | exact Conj.nil | refine Conj.cons rfl ?_ | refine Conj.same ?_ | refine Conj.ask ?_ ?_ | refine Tw.regd env ?_ | refine TDr.nil ⟨by kernel_rfl, ?_⟩
      | ((with_reducible refine TOps.any ?_); first | refine TOps.frunP env (by rfl) (by rfl) ?_ ?_ | refine TOps.strip env (by rfl) (by rfl) ?_ ?_)
      | ((with_reducible refine TDr.any ?_); refine TDr.frunP env (by rfl) (by rfl) ?_ ?_)
      | ((with_reducible refine Tw.any ?_); first | refine Tw.condT (by rfl) ?_ | refine Tw.condF (by rfl) ?_)
      | ((first | ((with_reducible refine TOps.any ?_); (fail_if_success refine TOps.known (by rfl) ?_); refine TOps.ask (by rfl) (fun h => ?_) (fun h => ?_)) | ((with_reducible refine TDr.any ?_); (fail_if_success refine TDr.known (by first | rfl | assumption) ?_); refine TDr.ask (by rfl) (fun h hk => ?_) (fun h => ?_)) | ((with_reducible refine Tw.any ?_); refine Tw.cond (by rfl) (fun h => ?_) (fun h => ?_))) <;> (try simp only [goS] at h) <;> (try simp only [rdi, rd3i, rdy, Int.toNat_natCast, Nat.add_zero] at h))
      | ((with_reducible refine tret.any ?_); first | refine tret.ok (by rfl) ?_ | refine tret.okN (by rfl) ?_)
      | ((with_reducible refine Due.mk ?_); (first | with_reducible rfl | omega | assumption | decide | ((try simp only [goS] at *) <;> (try intro h) <;> (try intro h') <;> (try simp only [goS] at *) <;> (try simp only [rdi, rd3i, rdy, Int.toNat_natCast, Nat.add_zero] at *) <;> (try simp only [rng]) <;> (first | assumption | omega)) | (exact due_app0 (by omega)) | (exact due_app (by omega)) | (intros; simp; done) | (intros; simp; omega)))
      | with_reducible refine Due.mk ?_
      | omega)
    all_goals (simp only [sumN]; rw [← e1]; rfl)
  · obtain rfl : i = l.length := by omega
    have a1 := s1 l.length (by omega)
    have a2 := s2 l.length (by omega)
    have a3 := s3 l.length (by omega)
    rw [hsum]
    repeat' (first
      | ((with_reducible refine TDr.any ?_); refine TDr.callE env (by first | rfl | assumption) (by rfl) (by rfl) ?_ (nearest_c _ _ ?_) (by rfl) (by rfl) ?_)
      | with_reducible first | refine Tw.seq ?_ | refine Tw.reg ?_ | refine Tw.block ?_ | refine Tw.scope ?_ | refine Tw.skip ?_ | refine Tw.exit ?_ | refine Tw.ret ?_ | refine seqN ?_ | refine seqR ?_ | refine seqE ?_ | refine blkN ?_ | refine blkR ?_ | refine blkE1 ?_ | refine blkE0 (by kernel_rfl) ?_ | refine scpN ?_ | refine scpR ?_ | refine scpE ?_ | refine TOps.nil ?_ | exact Conj.nil | refine Conj.cons rfl ?_ | refine Conj.same ?_ | refine Conj.ask ?_ ?_ | refine Tw.regd env ?_ | refine TDr.nil ⟨by kernel_rfl, ?_⟩
      | ((with_reducible refine TOps.any ?_); first | refine TOps.frunP env (by rfl) (by rfl) ?_ ?_ | refine TOps.strip env (by rfl) (by rfl) ?_ ?_)
      | ((with_reducible refine TDr.any ?_); refine TDr.frunP env (by rfl) (by rfl) ?_ ?_)
      | ((with_reducible refine Tw.any ?_); first | refine Tw.condT (by rfl) ?_ | refine Tw.condF (by rfl) ?_)
      | ((first | ((with_reducible refine TOps.any ?_); (fail_if_success refine TOps.known (by rfl) ?_); refine TOps.ask (by rfl) (fun h => ?_) (fun h => ?_)) | ((with_reducible refine TDr.any ?_); (fail_if_success refine TDr.known (by first | rfl | assumption) ?_); refine TDr.ask (by rfl) (fun h hk => ?_) (fun h => ?_)) | ((with_reducible refine Tw.any ?_); refine Tw.cond (by rfl) (fun h => ?_) (fun h => ?_))) <;> (try simp only [goS] at h) <;> (try simp only [rdi, rd3i, rdy, Int.toNat_natCast, Nat.add_zero] at h) <;> (try (exfalso; (try simp only [goP, reduceCtorEq] at h) <;> (first | assumption | omega | contradiction | (rcases h with ⟨_, _⟩ <;> first | contradiction | omega) | (rcases h with h | h <;> first | contradiction | omega)))))
      | ((with_reducible refine tret.any ?_); first | refine tret.ok (by rfl) ?_ | refine tret.okN (by rfl) ?_)
      | ((with_reducible refine Due.mk ?_); (first | with_reducible rfl | omega | assumption | decide | ((try simp only [goS] at *) <;> (try intro h) <;> (try intro h') <;> (try simp only [goS] at *) <;> (try simp only [rdi, rd3i, rdy, Int.toNat_natCast, Nat.add_zero] at *) <;> (try simp only [rng]) <;> (first | assumption | omega)) | (exact due_app0 (by omega)) | (exact due_app (by omega)) | (intros; simp; done) | (intros; simp; omega)))
      | with_reducible refine Due.mk ?_
      | omega)
    exact ⟨rfl, rfl, rfl⟩
end Go.Proofs.Ytfgaefpdccdfiaa
