/- The law BitmapOrientations: turning twice is turning once, in the group of the eight orientations. -/
import Derived.Test.YtanhalcbghbpaaaBits4
import Derived.Test.YtanhalcbghbpaaaBitmapW
import Derived.Test.YtanhalcbghbpaaaRBytes
import Derived.Test.YtanhalcbghbpaaaRMod
import Derived.Test.YtanhalcbghbpaaaXBitmapOrientations0
namespace Go.Proofs.Ytanhalcbghbpaaa
open Go Go.Lite
set_option linter.unusedVariables false
set_option linter.unusedSimpArgs false
set_option maxRecDepth 100000
set_option maxHeartbeats 4000000
-- @simp rdi rdy

theorem bytesW {l : List Int} (h : ∀ y ∈ l, Wy y) : ∀ i, i < l.length → 0 ≤ l.getD i 0 ∧ l.getD i 0 ≤ 255 := fun i hi => by
  have hm : l.getD i 0 ∈ l := by
    rw [List.getD_eq_getElem?_getD, List.getElem?_eq_getElem hi]; exact List.getElem_mem hi
  have := h _ hm
  simpa [Wy, rng] using this
abbrev B3 (w k : Nat) (f : Nat → Nat → Bool) : Bm3 := (w, k, bm w k f)
theorem b3_congr {w k : Nat} {f g : Nat → Nat → Bool} (e : ∀ x y, x < w → y < k → f x y = g x y) : B3 w k f = B3 w k g := by unfold B3; rw [bm_congr e]
theorem rot_bm {w k : Nat} {f : Nat → Nat → Bool} : rotD (B3 w k f) = B3 k w fun x y => f y (k - 1 - x) := by
  unfold rotD
  exact b3_congr fun x y hx hy => px_bm (by simpa using hy) (by simp at hx ⊢; omega)
theorem mir_bm {w k : Nat} {f : Nat → Nat → Bool} : mirD (B3 w k f) = B3 w k fun x y => f (w - 1 - x) y := by
  unfold mirD
  exact b3_congr fun x y hx hy => px_bm (by simp at hx ⊢; omega) (by simpa using hy)
theorem b3_of {t : Bm3} (h : Ok3 t) : ∃ w k f, t = B3 w k f ∧ 1 ≤ w ∧ 1 ≤ k := by
  obtain ⟨w, k, D⟩ := t
  have := ok_is (show BmOk w k D from h)
  exact ⟨w, k, _, by unfold B3; rw [← this], h.w1.1, h.h1.1⟩
theorem rot4 {t : Bm3} (h : Ok3 t) : rots t 4 = t := by
  obtain ⟨w, k, f, rfl, hw, hk⟩ := b3_of h
  simp only [rots, rot_bm]
  exact b3_congr fun x y hx hy => by congr 1 <;> omega
theorem mir_mir {t : Bm3} (h : Ok3 t) : mirD (mirD t) = t := by
  obtain ⟨w, k, f, rfl, hw, hk⟩ := b3_of h
  simp only [mir_bm]
  exact b3_congr fun x y hx hy => by congr 1; omega
theorem mir_rot {t : Bm3} (h : Ok3 t) : mirD (rotD t) = rots (mirD t) 3 := by
  obtain ⟨w, k, f, rfl, hw, hk⟩ := b3_of h
  simp only [rots, rot_bm, mir_bm]
  exact b3_congr fun x y hx hy => by congr 1 <;> omega
theorem rots_add (t : Bm3) (a : Nat) : ∀ b, rots (rots t a) b = rots t (a + b)
  | 0 => rfl
  | b + 1 => by rw [← Nat.add_assoc]; simp only [rots]; rw [rots_add t a b]
theorem rots_4 {t : Bm3} (h : Ok3 t) (n : Nat) : rots t (4 + n) = rots t n := by rw [← rots_add, rot4 h]
theorem rots_mod {t : Bm3} (h : Ok3 t) : ∀ n, rots t n = rots t (n % 4) := by
  intro n
  induction n using Nat.strongRecOn with
  | _ n ih =>
    rcases Nat.lt_or_ge n 4 with hn | hn
    · rw [Nat.mod_eq_of_lt hn]
    · obtain ⟨m, rfl⟩ : ∃ m, n = 4 + m := ⟨n - 4, by omega⟩
      rw [rots_4 h, ih m (by omega), show (4 + m) % 4 = m % 4 by omega]
theorem mir_rots {t : Bm3} (h : Ok3 t) : ∀ a, mirD (rots t a) = rots (mirD t) (3 * a)
  | 0 => rfl
  | a + 1 => by
    simp only [rots]
    rw [mir_rot (rots_ok h a), mir_rots h a, rots_add, show 3 * a + 3 = 3 * (a + 1) by omega]
theorem trn_trn {t : Bm3} (h : Ok3 t) {j k m : Nat} (hj : j < 8) (hk : k < 8) (hm : m < 4) (e : (k < 4 ∧ m = (k + j) % 4) ∨ (4 ≤ k ∧ (m + j) % 4 = k % 4)) :
    trn (trn t j) k = trn t ((j / 4 + k / 4) % 2 * 4 + m) := by
  have e4 : ((j / 4 + k / 4) % 2 * 4 + m) % 4 = m := by omega
  rcases Nat.lt_or_ge j 4 with h1 | h1 <;> rcases Nat.lt_or_ge k 4 with h2 | h2
  · have d : ¬ 4 ≤ (j / 4 + k / 4) % 2 * 4 + m := by omega
    unfold trn
    rw [if_neg (show ¬ 4 ≤ j by omega), if_neg (show ¬ 4 ≤ k by omega), if_neg d, e4, rots_add, rots_mod h (j % 4 + k % 4)]
    congr 1; omega
  · have d : 4 ≤ (j / 4 + k / 4) % 2 * 4 + m := by omega
    unfold trn
    rw [if_neg (show ¬ 4 ≤ j by omega), if_pos h2, if_pos d, e4, mir_rots h, rots_add, rots_mod (mir_ok h) (3 * (j % 4) + k % 4)]
    congr 1; omega
  · have d : 4 ≤ (j / 4 + k / 4) % 2 * 4 + m := by omega
    unfold trn
    rw [if_pos h1, if_neg (show ¬ 4 ≤ k by omega), if_pos d, e4, rots_add, rots_mod (mir_ok h) (j % 4 + k % 4)]
    congr 1; omega
  · have d : ¬ 4 ≤ (j / 4 + k / 4) % 2 * 4 + m := by omega
    unfold trn
    rw [if_pos h1, if_pos h2, if_neg d, e4, mir_rots (mir_ok h), mir_mir h, rots_add, rots_mod h (3 * (j % 4) + k % 4)]
    congr 1; omega

theorem BitmapOrientations_law (W H : Int) (D : List Int) (j0 k0 : Int) (_ : rng .i64 W) (_ : rng .i64 H) (wd : D.length ≤ 9223372036854775807 ∧ ∀ y ∈ D, Wy y) (_ : rng .i64 j0) (_ : rng .i64 k0) :
    TC R Try.prog K2_BitmapOrientations_f [.agg [.int .i64 W, .int .i64 H, .lst Ey D], .int .i64 j0, .int .i64 k0] [] (fun v X => v = .bool true ∧ X = []) := by
  rename_i rW rH rj rk
  simp only [rng] at rj rk
  have hd := bytesW wd.2
  have m1 := rMod_c j0 8 (by unfold Due; omega)
  have m2 := rMod_c k0 8 (by unfold Due; omega)
  obtain ⟨j, hj⟩ : ∃ n : Nat, j0 % 8 = n := ⟨(j0 % 8).toNat, by omega⟩
  obtain ⟨k, hk⟩ : ∃ n : Nat, k0 % 8 = n := ⟨(k0 % 8).toNat, by omega⟩
  rw [hj] at m1
  rw [hk] at m2
  have hj8 : j < 8 := by omega
  have hk8 : k < 8 := by omega
  refine tc0 env K2_BitmapOrientations_s (by rfl) ?_
  dsimp only [K2_BitmapOrientations_c]
  by_cases hc : bitsE W H D = 0
  · obtain ⟨w, h, rfl, rfl, ok⟩ := (bitsE_ok hd).1 hc
    have ok0 : Ok3 (w, h, D) := ok
    have ok1 := trn_ok ok0 j
    have t1 := turn_c w h D j ok hj8
    have hE : ∃ t1 : Bm3, trn (w, h, D) j = t1 := ⟨_, rfl⟩
    obtain ⟨t1', ht1⟩ := hE
    rw [ht1] at t1 ok1
    have t2 := turn_c t1'.1 t1'.2.1 t1'.2.2 k ok1 hk8
    have q1 : quo (j : Int) 4 = ((j / 4 : Nat) : Int) := by rw [quo_nn (by omega)]; omega
    have q2 : quo (k : Int) 4 = ((k / 4 : Nat) : Int) := by rw [quo_nn (by omega)]; omega
    have q3 : rem (((j / 4 : Nat) : Int) + ((k / 4 : Nat) : Int)) 2 = (((j / 4 + k / 4) % 2 : Nat) : Int) := by rw [rem_nn (by omega)]; omega
    have main : ∀ tn : Int, -8 ≤ tn → tn ≤ 16 → (k < 4 ∧ tn = k + j ∨ 4 ≤ k ∧ tn = k - j) → ∃ m : Nat, m < 4 ∧ tn % 4 = m ∧ trn t1' k = trn (w, h, D) ((j / 4 + k / 4) % 2 * 4 + m) := by
      intro tn b1 b2 e
      obtain ⟨m, hm⟩ : ∃ m : Nat, tn % 4 = m := ⟨(tn % 4).toNat, by omega⟩
      refine ⟨m, by omega, hm, ?_⟩
      rw [← ht1]
      exact trn_trn ok0 hj8 hk8 (by omega) (by rcases e with e | e; · left; omega
                                               · right; omega)
    rcases Nat.lt_or_ge k 4 with hk4 | hk4
    · obtain ⟨m, hm4, hm, heq⟩ := main ((k : Int) + j) (by omega) (by omega) (.inl ⟨hk4, rfl⟩)
      have m3 := rMod_c ((k : Int) + j) 4 (by unfold Due; omega)
      rw [hm] at m3
      have t3 := turn_c w h D ((j / 4 + k / 4) % 2 * 4 + m) ok (by omega)
      rw [← heq] at t3
      have ok2 : Ok3 (trn t1' k) := trn_ok ok1 k
      have sb := sameBits_c (trn t1' k).1 (trn t1' k).2.1 (trn t1' k).1 (trn t1' k).2.1 (trn t1' k).2.2 (trn t1' k).2.2 ok2.byte ok2.byte
      rw [decide_eq_true ⟨rfl, rfl, rfl⟩] at sb
      have b1 : -9223372036854775808 ≤ rem (quo (j : Int) 4 + quo (k : Int) 4) 2 * 4 ∧ rem (quo (j : Int) 4 + quo (k : Int) 4) 2 * 4 ≤ 9223372036854775807 := by rw [q1, q2, q3]; omega
      have b2 : -9223372036854775808 ≤ rem (quo (j : Int) 4 + quo (k : Int) 4) 2 * 4 + (m : Int) ∧ rem (quo (j : Int) 4 + quo (k : Int) 4) 2 * 4 + (m : Int) ≤ 9223372036854775807 := by rw [q1, q2, q3]; omega
      repeat' (first
        | ((with_reducible refine TOps.any ?_); refine TOps.callV env (by rfl) (by rfl) (by rfl) (bitmapWorks_c) ?_)
        | ((with_reducible refine TOps.any ?_); refine TOps.callV env (by rfl) (by rfl) (by rfl) (m1) ?_)
        | ((with_reducible refine TOps.any ?_); refine TOps.callV env (by rfl) (by rfl) (by rfl) (m2) ?_)
        | ((with_reducible refine TOps.any ?_); refine TOps.callV env (by rfl) (by rfl) (by rfl) (t1) ?_)
        | ((with_reducible refine TOps.any ?_); refine TOps.callV env (by rfl) (by rfl) (by rfl) (t2) ?_)
        | ((with_reducible refine TDr.any ?_); refine TDr.callE env (by first | rfl | assumption) (by rfl) (by rfl) ?_ (m3) (by rfl) (by rfl) ?_)
        | ((with_reducible refine TDr.any ?_); refine TDr.callHD env [] (t3) (by first | rfl | assumption) (by rfl) (by rfl) (by rfl) (by rfl) (by rfl) (fun _ => by rfl) (fun _ => by repeat' (first | exact trivial | refine ⟨rfl, ?_⟩)) (fun _ => by rfl) (fun _ => by rfl) ?_)
        | ((with_reducible refine TOps.any ?_); refine TOps.callE env (by rfl) (by rfl) (by rfl) ?_ (sb) (by rfl) ?_)
        | exact b1
        | exact b2
        | with_reducible first | refine Tw.seq ?_ | refine Tw.reg ?_ | refine Tw.block ?_ | refine Tw.scope ?_ | refine Tw.skip ?_ | refine Tw.exit ?_ | refine Tw.ret ?_ | refine seqN ?_ | refine seqR ?_ | refine seqE ?_ | refine rndN ?_ | refine blkN ?_ | refine blkR ?_ | refine blkE1 ?_ | refine blkE0 (by kernel_rfl) ?_ | refine scpN ?_ | refine scpR ?_ | refine scpE ?_ | refine TOps.nil ?_ | exact Conj.nil | refine Conj.cons rfl ?_ | refine Conj.same ?_ | refine Conj.ask ?_ ?_ | refine Tw.regd env ?_ | refine TDr.nil ⟨by kernel_rfl, ?_⟩
        | ((with_reducible refine TOps.any ?_); first | refine TOps.frunP env (by rfl) (by rfl) ?_ ?_ | (refine TOps.known (by rfl) ?_; refine TOps.strip env (by rfl) (by rfl) ?_ ?_) | refine TOps.on (by rfl) (by rfl) ?_)
        | ((with_reducible refine TDr.any ?_); refine TDr.frunP env (by rfl) (by rfl) ?_ ?_)
        | ((with_reducible refine Tw.any ?_); first | refine Tw.condT (by rfl) ?_ | refine Tw.condF (by rfl) ?_)
        | ((first | ((with_reducible refine TOps.any ?_); (fail_if_success refine TOps.known (by rfl) ?_); refine TOps.ask (by rfl) (fun h => ?_) (fun h => ?_)) | ((with_reducible refine TDr.any ?_); (fail_if_success refine TDr.known (by first | rfl | assumption) ?_); refine TDr.ask (by rfl) (fun h hk => ?_) (fun h => ?_)) | ((with_reducible refine Tw.any ?_); refine Tw.cond (by rfl) (fun h => ?_) (fun h => ?_))) <;> (try simp only [goS] at h) <;> (try simp only [rdi, rdy, Int.toNat_natCast, Nat.add_zero] at h) <;> (try (exfalso; (try simp only [goP, reduceCtorEq] at h) <;> (first | assumption | omega | contradiction | (rcases h with ⟨_, _⟩ <;> first | contradiction | omega) | (rcases h with h | h <;> first | contradiction | omega)))))
        | ((with_reducible refine tret.any ?_); first | refine tret.ok (by rfl) ?_ | refine tret.okN (by rfl) ?_)
        | ((with_reducible refine Due.mk ?_); (first | with_reducible rfl | omega | assumption | decide | ((try simp only [goS] at *) <;> (try intro h) <;> (try intro h') <;> (try simp only [goS] at *) <;> (try simp only [rdi, rdy, Int.toNat_natCast, Nat.add_zero] at *) <;> (try simp only [rng]) <;> (first | assumption | omega)) | (exact due_app0 (by omega)) | (exact due_app (by omega)) | (intros; simp; done) | (intros; simp; omega)))
        | with_reducible refine Due.mk ?_
        | omega)
      all_goals exact ⟨rfl, congrArg TV.bool (by simp), rfl⟩
    · obtain ⟨m, hm4, hm, heq⟩ := main ((k : Int) - j) (by omega) (by omega) (.inr ⟨hk4, rfl⟩)
      have m3 := rMod_c ((k : Int) - j) 4 (by unfold Due; omega)
      rw [hm] at m3
      have t3 := turn_c w h D ((j / 4 + k / 4) % 2 * 4 + m) ok (by omega)
      rw [← heq] at t3
      have ok2 : Ok3 (trn t1' k) := trn_ok ok1 k
      have sb := sameBits_c (trn t1' k).1 (trn t1' k).2.1 (trn t1' k).1 (trn t1' k).2.1 (trn t1' k).2.2 (trn t1' k).2.2 ok2.byte ok2.byte
      rw [decide_eq_true ⟨rfl, rfl, rfl⟩] at sb
      have b1 : -9223372036854775808 ≤ rem (quo (j : Int) 4 + quo (k : Int) 4) 2 * 4 ∧ rem (quo (j : Int) 4 + quo (k : Int) 4) 2 * 4 ≤ 9223372036854775807 := by rw [q1, q2, q3]; omega
      have b2 : -9223372036854775808 ≤ rem (quo (j : Int) 4 + quo (k : Int) 4) 2 * 4 + (m : Int) ∧ rem (quo (j : Int) 4 + quo (k : Int) 4) 2 * 4 + (m : Int) ≤ 9223372036854775807 := by rw [q1, q2, q3]; omega
      repeat' (first
        | ((with_reducible refine TOps.any ?_); refine TOps.callV env (by rfl) (by rfl) (by rfl) (bitmapWorks_c) ?_)
        | ((with_reducible refine TOps.any ?_); refine TOps.callV env (by rfl) (by rfl) (by rfl) (m1) ?_)
        | ((with_reducible refine TOps.any ?_); refine TOps.callV env (by rfl) (by rfl) (by rfl) (m2) ?_)
        | ((with_reducible refine TOps.any ?_); refine TOps.callV env (by rfl) (by rfl) (by rfl) (t1) ?_)
        | ((with_reducible refine TOps.any ?_); refine TOps.callV env (by rfl) (by rfl) (by rfl) (t2) ?_)
        | ((with_reducible refine TDr.any ?_); refine TDr.callE env (by first | rfl | assumption) (by rfl) (by rfl) ?_ (m3) (by rfl) (by rfl) ?_)
        | ((with_reducible refine TDr.any ?_); refine TDr.callHD env [] (t3) (by first | rfl | assumption) (by rfl) (by rfl) (by rfl) (by rfl) (by rfl) (fun _ => by rfl) (fun _ => by repeat' (first | exact trivial | refine ⟨rfl, ?_⟩)) (fun _ => by rfl) (fun _ => by rfl) ?_)
        | ((with_reducible refine TOps.any ?_); refine TOps.callE env (by rfl) (by rfl) (by rfl) ?_ (sb) (by rfl) ?_)
        | exact b1
        | exact b2
        | with_reducible first | refine Tw.seq ?_ | refine Tw.reg ?_ | refine Tw.block ?_ | refine Tw.scope ?_ | refine Tw.skip ?_ | refine Tw.exit ?_ | refine Tw.ret ?_ | refine seqN ?_ | refine seqR ?_ | refine seqE ?_ | refine rndN ?_ | refine blkN ?_ | refine blkR ?_ | refine blkE1 ?_ | refine blkE0 (by kernel_rfl) ?_ | refine scpN ?_ | refine scpR ?_ | refine scpE ?_ | refine TOps.nil ?_ | exact Conj.nil | refine Conj.cons rfl ?_ | refine Conj.same ?_ | refine Conj.ask ?_ ?_ | refine Tw.regd env ?_ | refine TDr.nil ⟨by kernel_rfl, ?_⟩
        | ((with_reducible refine TOps.any ?_); first | refine TOps.frunP env (by rfl) (by rfl) ?_ ?_ | (refine TOps.known (by rfl) ?_; refine TOps.strip env (by rfl) (by rfl) ?_ ?_) | refine TOps.on (by rfl) (by rfl) ?_)
        | ((with_reducible refine TDr.any ?_); refine TDr.frunP env (by rfl) (by rfl) ?_ ?_)
        | ((with_reducible refine Tw.any ?_); first | refine Tw.condT (by rfl) ?_ | refine Tw.condF (by rfl) ?_)
        | ((first | ((with_reducible refine TOps.any ?_); (fail_if_success refine TOps.known (by rfl) ?_); refine TOps.ask (by rfl) (fun h => ?_) (fun h => ?_)) | ((with_reducible refine TDr.any ?_); (fail_if_success refine TDr.known (by first | rfl | assumption) ?_); refine TDr.ask (by rfl) (fun h hk => ?_) (fun h => ?_)) | ((with_reducible refine Tw.any ?_); refine Tw.cond (by rfl) (fun h => ?_) (fun h => ?_))) <;> (try simp only [goS] at h) <;> (try simp only [rdi, rdy, Int.toNat_natCast, Nat.add_zero] at h) <;> (try (exfalso; (try simp only [goP, reduceCtorEq] at h) <;> (first | assumption | omega | contradiction | (rcases h with ⟨_, _⟩ <;> first | contradiction | omega) | (rcases h with h | h <;> first | contradiction | omega)))))
        | ((with_reducible refine tret.any ?_); first | refine tret.ok (by rfl) ?_ | refine tret.okN (by rfl) ?_)
        | ((with_reducible refine Due.mk ?_); (first | with_reducible rfl | omega | assumption | decide | ((try simp only [goS] at *) <;> (try intro h) <;> (try intro h') <;> (try simp only [goS] at *) <;> (try simp only [rdi, rdy, Int.toNat_natCast, Nat.add_zero] at *) <;> (try simp only [rng]) <;> (first | assumption | omega)) | (exact due_app0 (by omega)) | (exact due_app (by omega)) | (intros; simp; done) | (intros; simp; omega)))
        | with_reducible refine Due.mk ?_
        | omega)
      all_goals exact ⟨rfl, congrArg TV.bool (by simp), rfl⟩
  · have t1 := turn_n W H D j hd hc
    have cc := bCheck_c W H D hd
    repeat' (first
      | ((with_reducible refine TOps.any ?_); refine TOps.callV env (by rfl) (by rfl) (by rfl) (bitmapWorks_c) ?_)
      | ((with_reducible refine TOps.any ?_); refine TOps.callV env (by rfl) (by rfl) (by rfl) (m1) ?_)
      | ((with_reducible refine TOps.any ?_); refine TOps.callV env (by rfl) (by rfl) (by rfl) (m2) ?_)
      | ((with_reducible refine TOps.any ?_); refine TOps.callV env (by rfl) (by rfl) (by rfl) (t1) ?_)
      | ((with_reducible refine TOps.any ?_); refine TOps.callE env (by rfl) (by rfl) (by rfl) ?_ (cc) (by rfl) ?_)
      | ((with_reducible refine TOps.any ?_); refine TOps.callE env (by rfl) (by rfl) (by rfl) ?_ (noBits0_c) (by rfl) ?_)
      | with_reducible first | refine Tw.seq ?_ | refine Tw.reg ?_ | refine Tw.block ?_ | refine Tw.scope ?_ | refine Tw.skip ?_ | refine Tw.exit ?_ | refine Tw.ret ?_ | refine seqN ?_ | refine seqR ?_ | refine seqE ?_ | refine rndN ?_ | refine blkN ?_ | refine blkR ?_ | refine blkE1 ?_ | refine blkE0 (by kernel_rfl) ?_ | refine scpN ?_ | refine scpR ?_ | refine scpE ?_ | refine TOps.nil ?_ | exact Conj.nil | refine Conj.cons rfl ?_ | refine Conj.same ?_ | refine Conj.ask ?_ ?_ | refine Tw.regd env ?_ | refine TDr.nil ⟨by kernel_rfl, ?_⟩
      | ((with_reducible refine TOps.any ?_); first | refine TOps.frunP env (by rfl) (by rfl) ?_ ?_ | (refine TOps.known (by rfl) ?_; refine TOps.strip env (by rfl) (by rfl) ?_ ?_) | refine TOps.on (by rfl) (by rfl) ?_)
      | ((with_reducible refine TDr.any ?_); refine TDr.frunP env (by rfl) (by rfl) ?_ ?_)
      | ((with_reducible refine Tw.any ?_); first | refine Tw.condT (by rfl) ?_ | refine Tw.condF (by rfl) ?_)
      | ((first | ((with_reducible refine TOps.any ?_); (fail_if_success refine TOps.known (by rfl) ?_); refine TOps.ask (by rfl) (fun h => ?_) (fun h => ?_)) | ((with_reducible refine TDr.any ?_); (fail_if_success refine TDr.known (by first | rfl | assumption) ?_); refine TDr.ask (by rfl) (fun h hk => ?_) (fun h => ?_)) | ((with_reducible refine Tw.any ?_); refine Tw.cond (by rfl) (fun h => ?_) (fun h => ?_))) <;> (try simp only [goS] at h) <;> (try simp only [rdi, rdy, Int.toNat_natCast, Nat.add_zero] at h) <;> (try (exfalso; (try simp only [goP, reduceCtorEq] at h) <;> (first | assumption | omega | contradiction | (rcases h with ⟨_, _⟩ <;> first | contradiction | omega) | (rcases h with h | h <;> first | contradiction | omega)))))
      | ((with_reducible refine tret.any ?_); first | refine tret.ok (by rfl) ?_ | refine tret.okN (by rfl) ?_)
      | ((with_reducible refine Due.mk ?_); (first | with_reducible rfl | omega | assumption | decide | ((try simp only [goS] at *) <;> (try intro h) <;> (try intro h') <;> (try simp only [goS] at *) <;> (try simp only [rdi, rdy, Int.toNat_natCast, Nat.add_zero] at *) <;> (try simp only [rng]) <;> (first | assumption | omega)) | (exact due_app0 (by omega)) | (exact due_app (by omega)) | (intros; simp; done) | (intros; simp; omega)))
      | with_reducible refine Due.mk ?_
      | omega)
    all_goals exact ⟨rfl, rfl, rfl⟩
end Go.Proofs.Ytanhalcbghbpaaa
