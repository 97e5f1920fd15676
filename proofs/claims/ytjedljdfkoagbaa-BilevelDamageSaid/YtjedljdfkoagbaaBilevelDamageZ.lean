/- The law BilevelDamage. -/
import Derived.Test.YtjedljdfkoagbaaBlW
import Derived.Test.YtjedljdfkoagbaaRTurn
import Derived.Test.YtjedljdfkoagbaaRc1
import Derived.Test.YtjedljdfkoagbaaXBilevelDamage0
import Derived.Test.YtjedljdfkoagbaaGo
namespace Go.Proofs.Ytjedljdfkoagbaa
open Go Go.Lite
set_option linter.unusedVariables false
set_option linter.unusedSimpArgs false
set_option maxRecDepth 100000
set_option maxHeartbeats 4000000
-- @simp rdi rdy

def numN (g : Nat → Nat) : Nat → Nat
  | 0 => 0
  | n + 1 => numN g n * 256 + g n
theorem numN_lt {g : Nat → Nat} : ∀ {n : Nat}, (∀ i, i < n → g i < 256) → numN g n < 256 ^ n
  | 0, _ => by simp [numN]
  | n + 1, h => by
    have ih := numN_lt (g := g) (n := n) fun i hi => h i (by omega)
    have := h n (by omega)
    simp only [numN]
    rw [Nat.pow_succ]
    omega
theorem number_c (l : List Int) (g : Nat → Nat) (n : Nat) (hl : l.length = n) (h3 : n ≤ 4) (hg : ∀ i, i < n → l.getD i 0 = (g i : Int) ∧ g i < 256) :
    TC R Try.prog R2_Number_f [.lst Ey l] [] (fun v X => v = .int .i64 (numN g n) ∧ X = []) := by
  refine tc0 env R2_Number_s (by rfl) ?_
  dsimp only [R2_Number_c]
  repeat' (first
    | refine GZy_i_y hl ?_ ?_ ?_ ?_ ?_ ?_ ?_ ?_
    | with_reducible first | exact BzZq.mk | refine Tw.ret ?_ | refine ImZq.i fun h => ?_ | refine IkZq.i fun hk => ?_)
  rw [hl]
  refine Tw.loopK [6, 7] (fun i : Nat => i ≤ n) (fun i => n - i) (fun i => [(8, .int .i64 i), (3, .int .i64 (numN g i))]) (fun i => []) ⟨0, by omega, TWk.fcanon env [] (by rfl) ?_⟩ (fun i hi => ?_)
  · repeat' (first
      | with_reducible first | exact Conj.nil | refine Conj.cons rfl ?_ | refine Conj.same ?_ | refine Conj.ask ?_ ?_
      | ((with_reducible refine Due.mk ?_); (first | with_reducible rfl | omega | assumption | decide | ((try simp only [goS] at *) <;> (try intro h) <;> (try intro h') <;> (try simp only [goS] at *) <;> (try simp only [rdi, rdy, Int.toNat_natCast, Nat.add_zero] at *) <;> (try simp only [rng]) <;> (first | assumption | omega)) | (exact due_app0 (by omega)) | (exact due_app (by omega)) | (intros; simp; done) | (intros; simp; omega)))
      | with_reducible refine Due.mk ?_
      | omega)
  rcases Nat.lt_or_ge i n with hi2 | hi2
  · have h1 := hg i hi2
    have h2 := numN_lt (g := g) (n := i) fun j hj => (hg j (by omega)).2
    have h4 : 256 ^ i ≤ 256 ^ 3 := Nat.pow_le_pow_right (by omega) (by omega)
    have e1 : l.getD (Int.toNat i) (R.d Ey) = (g i : Int) := by rw [Int.toNat_natCast]; exact h1.1
    have e2 := bor8 (a := numN g i) h1.2
    have r1 : 0 ≤ (numN g i : Int) * 2 ^ Int.toNat 8 ∧ (numN g i : Int) * 2 ^ Int.toNat 8 ≤ 4294967296 := by
      show 0 ≤ (numN g i : Int) * 256 ∧ (numN g i : Int) * 256 ≤ 4294967296
      omega
    have r2 : rng .i64 ((numN g i : Int) * 2 ^ Int.toNat 8) := ⟨by omega, by omega⟩
    have r3 : rng .i64 (l.getD (Int.toNat i) (R.d Ey)) := by rw [e1]; exact ⟨by omega, by omega⟩
    have r4 : 0 ≤ l.getD (Int.toNat i) (R.d Ey) := by rw [e1]; omega
    repeat' (first
      | exact r2
      | exact r3
      | exact r4
      | exact r1.1
      | refine GZy_i_y hl ?_ ?_ ?_ ?_ ?_ ?_ ?_ ?_
      | with_reducible first | exact BzZq.mk | refine Tw.ret ?_ | refine ImZq.i fun h => ?_ | refine IkZq.i fun hk => ?_)
    refine ⟨i + 1, by omega, by omega, TWk.fcanon env [] (by rfl) ?_⟩
    repeat' (first
      | with_reducible first | exact Conj.nil | refine Conj.cons rfl ?_ | refine Conj.same ?_ | refine Conj.ask ?_ ?_
      | ((with_reducible refine Due.mk ?_); (first | with_reducible rfl | omega | assumption | decide | ((try simp only [goS] at *) <;> (try intro h) <;> (try intro h') <;> (try simp only [goS] at *) <;> (try simp only [rdi, rdy, Int.toNat_natCast, Nat.add_zero] at *) <;> (try simp only [rng]) <;> (first | assumption | omega)) | (exact due_app0 (by omega)) | (exact due_app (by omega)) | (intros; simp; done) | (intros; simp; omega)))
      | with_reducible refine Due.mk ?_
      | omega)
    rw [e1, e2]; rfl
  obtain rfl : i = n := by omega
  repeat' (first
    | refine GZp_i_y ?_ ?_ ?_ ?_ ?_ ?_ ?_ ?_
    | with_reducible first | exact BzZq.mk | refine Tw.ret ?_ | refine ImZq.i fun h => ?_ | refine IkZq.i fun hk => ?_)
  exact ⟨rfl, rfl, rfl⟩
theorem genB_congr {w h r : Nat} {Q P : Nat → List Int} : ∀ {m : Nat}, (∀ j, j < m → Q j = P j) → genB w h r Q m = genB w h r P m
  | 0, _ => rfl
  | m + 1, e => by
    simp only [genB]
    rw [genB_congr fun j hj => e j (by omega), e m (by omega)]
theorem set_app1 {α : Type} {a b : List α} {i : Nat} {v : α} (h : i < a.length) : (a ++ b).set i v = a.set i v ++ b := List.set_append_left _ _ h
theorem genB_set {w h r : Nat} {Q : Nat → List Int} {k a : Nat} {v : Int} (ha : a < (Q k).length) : ∀ {m : Nat}, k < m →
    (genB w h r Q m).set ((genB w h r Q k).length + 3 + a) v = genB w h r (fun j => if j = k then (Q k).set a v else Q j) m
  | 0, hk => by omega
  | m + 1, hk => by
    simp only [genB]
    rcases Nat.lt_or_ge k m with h1 | h1
    · have ih := genB_set (w := w) (h := h) (r := r) (v := v) ha h1
      obtain ⟨T, hT⟩ := genB_mono (w := w) (h := h) (r := r) (Q := Q) (show k + 1 ≤ m from h1)
      have ll : (genB w h r Q m).length = (genB w h r Q k).length + (3 + (Q k).length) + T.length := by
        rw [hT, List.length_append]
        simp only [genB, recB]
        rw [List.length_append, List.length_append, List.length_append]
        show _ + (1 + 2 + _) + _ = _
        omega
      rw [set_app1 (by omega), ih, if_neg (show m ≠ k by omega)]
    · obtain rfl : k = m := by omega
      rw [if_pos rfl, genB_congr (P := fun j => if j = k then (Q k).set a v else Q j) (m := k) fun j hj => by rw [if_neg (by omega)]]
      rw [List.set_append_right _ _ (by rw [genB_congr (P := Q) (m := k) fun j hj => by rw [if_neg (by omega)]]; omega)]
      congr 1
      have e : (genB w h r (fun j => if j = k then (Q k).set a v else Q j) k) = genB w h r Q k := genB_congr fun j hj => by rw [if_neg (by omega)]
      rw [e, show (genB w h r Q k).length + 3 + a - (genB w h r Q k).length = 3 + a by omega]
      unfold recB
      rw [List.set_append_right _ _ (by show 1 + 2 ≤ 3 + a; omega), List.length_set]
      congr 2
      show (3 + a) - (1 + 2) = a
      omega
theorem head3 {w h r : Nat} {Q : Nat → List Int} {k m : Nat} (hk : k < m) : cut (genB w h r Q m) (genB w h r Q k).length 3 = [(((Q k).length / 65536 % 256 : Nat) : Int)] ++ n16 (Q k).length ∧ (genB w h r Q k).length + 3 + (Q k).length ≤ (genB w h r Q m).length := by
  obtain ⟨T, hT⟩ := genB_mono (w := w) (h := h) (r := r) (Q := Q) (show k + 1 ≤ m from hk)
  rw [hT]
  simp only [genB]
  refine ⟨?_, ?_⟩
  · rw [cut_eq, List.append_assoc, List.drop_left]; rfl
  · unfold recB
    rw [List.length_append, List.length_append, List.length_append, List.length_append]
    show _ + 3 + _ ≤ _ + (1 + 2 + _) + _
    omega
theorem BilevelDamage_law (W H : Int) (D : List Int) (r0 k0 a0 b0 : Int) (_ : rng .i64 W) (_ : rng .i64 H) (wd : D.length ≤ 9223372036854775807 ∧ ∀ y ∈ D, Wy y) (_ : rng .i64 r0) (_ : rng .i64 k0) (_ : rng .i64 a0) (_ : rng .i64 b0) :
    TC R Try.prog K2_BilevelDamage_f [.agg [.int .i64 W, .int .i64 H, .lst Ey D], .int .i64 r0, .int .i64 k0, .int .i64 a0, .int .i64 b0] [] (fun v X => v = .bool true ∧ X = []) := by
  rename_i rW rH rr rk ra rb
  simp only [rng] at rr rk ra rb
  have hd := bytesW2 wd.2
  have m1 := rMod_c r0 8 (by unfold Due; omega)
  obtain ⟨r, hr⟩ : ∃ r : Nat, 1 + r0 % 8 = r := ⟨(1 + r0 % 8).toNat, by omega⟩
  have hr2 : 1 ≤ r ∧ r ≤ 64 := by omega
  refine tc0 env K2_BilevelDamage_s (by rfl) ?_
  dsimp only [K2_BilevelDamage_c]
  by_cases hs : 64 < W ∨ 40 < H
  · repeat' (first
      | ((with_reducible refine TOps.any ?_); refine TOps.callV env (by rfl) (by rfl) (by rfl) (bilevelWorks_c) ?_)
      | refine GZp_i_y ?_ ?_ ?_ ?_ ?_ ?_ ?_ ?_
      | with_reducible first | exact BzZq.mk | refine Tw.ret ?_ | refine ImZq.i fun h => ?_ | refine IkZq.i fun hk => ?_)
    all_goals exact ⟨rfl, rfl, rfl⟩
  by_cases hc : bitsE W H D = 0
  · obtain ⟨w, y, rfl, rfl, ok⟩ := (bitsE_ok hd).1 hc
    have hw : 1 ≤ w ∧ w ≤ 64 := ⟨ok.w1.1, by omega⟩
    have hy : 1 ≤ y ∧ y ≤ 40 := ⟨ok.h1.1, by omega⟩
    obtain ⟨f, hf⟩ : ∃ f : Nat → Nat → Bool, D = bm w y f := ⟨_, ok_is ok⟩
    subst hf
    obtain ⟨m, hm⟩ : ∃ m, m = (y + r - 1) / r := ⟨_, rfl⟩
    have hm1 : 1 ≤ m ∧ m ≤ 103 := by
      rw [hm]
      exact ⟨(Nat.le_div_iff_mul_le (by omega)).2 (by omega), Nat.le_trans (Nat.div_le_self _ _) (by omega)⟩
    obtain ⟨k, hk⟩ : ∃ k : Nat, k0 % (m : Int) = k := ⟨(k0 % (m : Int)).toNat, by
      have := Int.emod_nonneg k0 (show (m : Int) ≠ 0 by omega)
      omega⟩
    have hk2 : k < m := by
      have := Int.emod_lt_of_pos k0 (show (0 : Int) < m by omega)
      omega
    have m2 := rMod_c k0 m (by unfold Due; omega)
    rw [hk] at m2
    obtain ⟨Q, hQ⟩ : ∃ Q, Q = sB w y r f := ⟨_, rfl⟩
    have ec := encode_b w y r f m (by omega) (by omega) hr2 hm (fun j hj => enB_small hw.2 hy.2 hr2 (by rw [← hm]; exact hj))
    have hl : (genB w y r Q m).length ≤ 1048576 := by rw [hQ]; exact enB_small hw.2 hy.2 hr2 (by rw [← hm]; exact Nat.le_refl _)
    have eE : enB w y r f m = genB w y r Q m := by rw [hQ]; rfl
    rw [eE] at ec
    have hQl : ∀ j, j < m → (Q j).length ≤ 1048576 := fun j hj => by
      have := (head3 (w := w) (h := y) (r := r) (Q := Q) hj).2
      omega
    have qm : quo ((y : Int) + (r : Int) - 1) (r : Int) = (m : Int) := by
      rw [quo_nn (by omega), hm]
      have : (y : Int) + (r : Int) - 1 = ((y + r - 1 : Nat) : Int) := by omega
      rw [this]; exact (Int.natCast_ediv _ _).symm
    have nc : ∀ j, j < m → TC R Try.prog R2_Number_f [.lst Ey (cut (genB w y r Q m) (genB w y r Q j).length 3)] [] (fun v X => v = .int .i64 (Q j).length ∧ X = []) := fun j hj => by
      have h := hQl j hj
      rw [(head3 hj).1]
      have := number_c ([(((Q j).length / 65536 % 256 : Nat) : Int)] ++ n16 (Q j).length) (fun i => match i with | 0 => (Q j).length / 65536 % 256 | 1 => (Q j).length / 256 % 256 | _ => (Q j).length % 256) 3 rfl (by omega) (fun i hi => by
        match i, hi with
        | 0, _ => exact ⟨rfl, by simp only; omega⟩
        | 1, _ => exact ⟨rfl, by simp only; omega⟩
        | 2, _ => exact ⟨rfl, by simp only; omega⟩)
      have e : numN (fun i => match i with | 0 => (Q j).length / 65536 % 256 | 1 => (Q j).length / 256 % 256 | _ => (Q j).length % 256) 3 = (Q j).length := by
        simp only [numN]; omega
      rw [e] at this
      exact this
    have l5 : 5 ≤ (genB w y r Q m).length := by
      obtain ⟨T, hT⟩ := genB_mono (w := w) (h := y) (r := r) (Q := Q) (show 0 ≤ m by omega)
      rw [hT, List.length_append]
      show 5 ≤ 5 + _
      omega
    obtain ⟨E, hE⟩ : ∃ E, E = genB w y r Q m := ⟨_, rfl⟩
    obtain ⟨off, hoff⟩ : ∃ off : Nat → Nat, off = fun j => (genB w y r Q j).length := ⟨_, rfl⟩
    have off0 : off 0 = 5 := by rw [hoff]; rfl
    have offS : ∀ j, off (j + 1) = off j + 3 + (Q j).length := fun j => by
      rw [hoff]
      simp only [genB, recB]
      rw [List.length_append, List.length_append, List.length_append]
      show _ + (1 + 2 + _) = _
      omega
    have offL : ∀ j, j < m → off j + 3 + (Q j).length ≤ E.length := fun j hj => by rw [hoff, hE]; exact (head3 hj).2
    have nc2 : ∀ j, j < m → TC R Try.prog R2_Number_f [.lst Ey (cut E (((off j : Nat) : Int).toNat + 0) ((((off j : Nat) : Int) + 3).toNat - ((off j : Nat) : Int).toNat))] [] (fun v X => v = .int .i64 (Q j).length ∧ X = []) := fun j hj => by
      rw [show (((off j : Nat) : Int) + 3).toNat = off j + 3 by omega, Int.toNat_natCast, Nat.add_zero, Nat.add_sub_cancel_left, hoff, hE]
      exact nc j hj
    rw [← hE] at ec hl l5
    repeat' (first
      | ((with_reducible refine TOps.any ?_); refine TOps.callV env (by rfl) (by rfl) (by rfl) (bilevelWorks_c) ?_)
      | ((with_reducible refine TOps.any ?_); refine TOps.callV env (by rfl) (by rfl) (by rfl) (m1) ?_)
      | refine GZy_i_y hr ?_ ?_ ?_ ?_ ?_ ?_ ?_ ?_
      | with_reducible first | exact BzZq.mk | refine Tw.ret ?_ | refine ImZq.i fun h => ?_ | refine IkZq.i fun hk => ?_)
    rw [hr]
    repeat' (first
      | ((with_reducible refine TOps.any ?_); refine TOps.callV env (by rfl) (by rfl) (by rfl) (ec) ?_)
      | refine GZy_i_y qm ?_ ?_ ?_ ?_ ?_ ?_ ?_ ?_
      | with_reducible first | exact BzZq.mk | refine Tw.ret ?_ | refine ImZq.i fun h => ?_ | refine IkZq.i fun hk => ?_)
    rw [qm]
    repeat' (first
      | ((with_reducible refine TOps.any ?_); refine TOps.callV env (by rfl) (by rfl) (by rfl) (m2) ?_)
      | refine GZp_i_y ?_ ?_ ?_ ?_ ?_ ?_ ?_ ?_
      | with_reducible first | exact BzZq.mk | refine Tw.ret ?_ | refine ImZq.i fun h => ?_ | refine IkZq.i fun hk => ?_)
    refine Tw.loopK [1, 2, 3, 4, 5, 11, 63] (fun j : Nat => j ≤ k) (fun j => k - j) (fun j => [(64, .int .i64 j), (14, .int .i64 (off j))])
      (fun _ => [some (.cells [.int .i64 w, .int .i64 y, .lst Ey (bm w y f)]), some (.arr Ey E)]) ⟨0, by omega, TWk.fcanon env [some 0, some 1] (by rfl) ?_⟩ (fun j hj => ?_)
    · repeat' (first
        | exact off0
        | with_reducible first | exact Conj.nil | refine Conj.cons rfl ?_ | refine Conj.same ?_ | refine Conj.ask ?_ ?_
        | ((with_reducible refine Due.mk ?_); (first | with_reducible rfl | omega | assumption | decide | ((try simp only [goS] at *) <;> (try intro h) <;> (try intro h') <;> (try simp only [goS] at *) <;> (try simp only [rdi, rdy, Int.toNat_natCast, Nat.add_zero] at *) <;> (try simp only [rng]) <;> (first | assumption | omega)) | (exact due_app0 (by omega)) | (exact due_app (by omega)) | (intros; simp; done) | (intros; simp; omega)))
        | with_reducible refine Due.mk ?_
        | omega)
    rcases Nat.lt_or_ge j k with hj2 | hj2
    · have n1 := nc2 j (by omega)
      have o1 := offL j (by omega)
      have o2 := offS j
      have oe : ((off (j + 1) : Nat) : Int) = (off j : Int) + (3 + ((Q j).length : Int)) := by omega
      repeat' (first
        | ((with_reducible refine TOps.any ?_); refine TOps.callE env (by rfl) (by rfl) ((fsnap_eq _ _ _).trans (by rfl)) (show Conj [_] from ?_) (n1) (by rfl) ?_)
        | refine GZp_i_y ?_ ?_ ?_ ?_ ?_ ?_ ?_ ?_
        | with_reducible first | exact BzZq.mk | refine Tw.ret ?_ | refine ImZq.i fun h => ?_ | refine IkZq.i fun hk => ?_)
      refine ⟨j + 1, by omega, by omega, TWk.fcanon env [some 0, some 1] (by rfl) ?_⟩
      repeat' (first
        | exact oe
        | with_reducible first | exact Conj.nil | refine Conj.cons rfl ?_ | refine Conj.same ?_ | refine Conj.ask ?_ ?_
        | ((with_reducible refine Due.mk ?_); (first | with_reducible rfl | omega | assumption | decide | ((try simp only [goS] at *) <;> (try intro h) <;> (try intro h') <;> (try simp only [goS] at *) <;> (try simp only [rdi, rdy, Int.toNat_natCast, Nat.add_zero] at *) <;> (try simp only [rng]) <;> (first | assumption | omega)) | (exact due_app0 (by omega)) | (exact due_app (by omega)) | (intros; simp; done) | (intros; simp; omega)))
        | with_reducible refine Due.mk ?_
        | omega)
    obtain rfl : j = k := by omega
    have n1 := nc2 j (by omega)
    have o1 := offL j (by omega)
    by_cases hz : (Q j).length = 0
    · repeat' (first
        | ((with_reducible refine TOps.any ?_); refine TOps.callE env (by rfl) (by rfl) ((fsnap_eq _ _ _).trans (by rfl)) (show Conj [_] from ?_) (n1) (by rfl) ?_)
        | refine GZp_i_y ?_ ?_ ?_ ?_ ?_ ?_ ?_ ?_
        | with_reducible first | exact BzZq.mk | refine Tw.ret ?_ | refine ImZq.i fun h => ?_ | refine IkZq.i fun hk => ?_)
      all_goals exact ⟨rfl, congrArg TV.bool (by simp [hz]), rfl⟩
    obtain ⟨a, ha⟩ : ∃ a : Nat, a0 % ((Q j).length : Int) = a := ⟨(a0 % ((Q j).length : Int)).toNat, by
      have := Int.emod_nonneg a0 (show ((Q j).length : Int) ≠ 0 by omega)
      omega⟩
    have ha2 : a < (Q j).length := by
      have := Int.emod_lt_of_pos a0 (show (0 : Int) < ((Q j).length : Int) by omega)
      omega
    have m3 := rMod_c a0 (Q j).length (by unfold Due; omega)
    rw [ha] at m3
    have m4 := rMod_c b0 256 (by unfold Due; omega)
    have ea : ∀ i, i < (Q j).length → 0 ≤ (Q j).getD i 0 ∧ (Q j).getD i 0 ≤ 255 := fun i hi => by
      rw [hQ] at hi ⊢
      exact bytesOf_bd _ i hi
    have eg : E.getD (off j + 3 + a) 0 = (Q j).getD a 0 := by
      obtain ⟨T, hT⟩ := genB_mono (w := w) (h := y) (r := r) (Q := Q) (show j + 1 ≤ m from hk2)
      rw [hE, hT, hoff]
      simp only [genB, recB]
      rw [List.append_assoc, List.append_assoc, getD_app2 (by omega), show (genB w y r Q j).length + 3 + a - (genB w y r Q j).length = 3 + a by omega]
      rw [getD_app2 (by show 1 + 2 ≤ 3 + a; omega), getD_app1 (by show 3 + a - (1 + 2) < _; omega)]
      congr 1
      show 3 + a - (1 + 2) = a
      omega
    have eI : (((off j : Nat) : Int) + 3 + (a : Int)).toNat + 0 = off j + 3 + a := by omega
    have r1 : rng .u8 (E.getD ((((off j : Nat) : Int) + 3 + (a : Int)).toNat + 0) (R.d Ey)) := by
      rw [eI]
      show rng .u8 (E.getD (off j + 3 + a) 0)
      rw [eg]; exact ea a ha2
    have r2 : 0 ≤ E.getD ((((off j : Nat) : Int) + 3 + (a : Int)).toNat + 0) (R.d Ey) := r1.1
    have r3 : 0 ≤ b0 % 256 % 256 ∧ b0 % 256 % 256 ≤ 255 := by omega
    obtain ⟨nv, hnv⟩ : ∃ nv, nv = bxor (E.getD ((((off j : Nat) : Int) + 3 + (a : Int)).toNat + 0) (R.d Ey)) (b0 % 256 % 256) := ⟨_, rfl⟩
    have nvb : 0 ≤ nv ∧ nv ≤ 255 := by
      have h1 : 0 ≤ E.getD ((((off j : Nat) : Int) + 3 + (a : Int)).toNat + 0) (R.d Ey) ∧ E.getD ((((off j : Nat) : Int) + 3 + (a : Int)).toNat + 0) (R.d Ey) ≤ 255 := r1
      rw [hnv]
      unfold bxor
      have : (E.getD ((((off j : Nat) : Int) + 3 + (a : Int)).toNat + 0) (R.d Ey)).toNat ^^^ (b0 % 256 % 256).toNat < 2 ^ 8 := Nat.xor_lt_two_pow (by omega) (by omega)
      omega
    obtain ⟨P, hP⟩ : ∃ P : Nat → List Int, P = fun i => if i = j then (Q j).set a nv else Q i := ⟨_, rfl⟩
    have hset : E.set ((((off j : Nat) : Int) + 3 + (a : Int)).toNat + 0) (bxor (E.getD ((((off j : Nat) : Int) + 3 + (a : Int)).toNat + 0) (R.d Ey)) (b0 % 256 % 256)) = genB w y r P m := by
      rw [← hnv, eI, hoff, hE, hP]
      exact genB_set ha2 hk2
    have hlP : (genB w y r P m).length = E.length := by rw [← hset, List.length_set]
    have hex : ∀ i : Nat, ∃ g : Nat → Nat → Bool, i < m → UnpC (P i) w (hK y r i) g ∧ (i ≠ j → g = fK f r i) := fun i => by
      by_cases hi : i < m
      · have jb := hK_bd (h := y) hr2.1 (show i < (y + r - 1) / r by rw [← hm]; exact hi)
        by_cases hij : i = j
        · subst hij
          have eP : P i = (Q i).set a nv := by rw [hP]; exact if_pos rfl
          obtain ⟨g, hg⟩ := unpack_any w (hK y r i) (P i) (by omega) (by omega) (by rw [eP, List.length_set]; exact hQl i hi) (fun x hx => by
            rw [eP] at hx ⊢
            rw [List.length_set] at hx
            by_cases hxa : a = x
            · subst hxa; rw [getD_set_eq hx]; exact nvb
            · rw [getD_set_ne hxa]; exact ea x hx)
          exact ⟨g, fun _ => ⟨hg, fun hne => absurd rfl hne⟩⟩
        · have eP : P i = Q i := by rw [hP]; exact if_neg hij
          refine ⟨fK f r i, fun _ => ⟨?_, fun _ => rfl⟩⟩
          rw [eP, hQ]
          exact unpack_s w (hK y r i) (fK f r i) (by omega) (by omega)
      · exact ⟨fun _ _ => false, fun h1 => absurd h1 hi⟩
    obtain ⟨G, hG⟩ := Classical.axiomOfChoice hex
    have dc := decode_b w y r m P G (by omega) (by omega) hr2 hm (by omega) (fun i hi => (hG i hi).1)
    obtain ⟨F, hF⟩ : ∃ F : Nat → Nat → Bool, F = fun x v => G (v / r) x (v % r) := ⟨_, rfl⟩
    rw [← hF] at dc
    obtain ⟨E', hE'⟩ : ∃ E', E' = genB w y r P m := ⟨_, rfl⟩
    rw [← hE'] at dc hlP hset
    have okf := bm_ok (w := w) (h := y) (f := f) (by omega) (by omega)
    have okF := bm_ok (w := w) (h := y) (f := F) (by omega) (by omega)
    have cF := bCheck_y w y (bm w y F) okF
    have same : ∀ x v, v < y → v / r ≠ j → F x v = f x v := fun x v hv hne => by
      have h1 : v / r < m := by
        rw [hm]
        have : v / r * r ≤ v := Nat.div_mul_le_self v r
        rw [Nat.lt_iff_add_one_le, Nat.le_div_iff_mul_le (by omega), Nat.add_mul]
        omega
      rw [hF]
      simp only
      rw [(hG (v / r) h1).2 hne]
      unfold fK
      rw [Nat.mul_comm, Nat.div_add_mod]
    repeat' (first
      | ((with_reducible refine TOps.any ?_); refine TOps.callE env (by rfl) (by rfl) ((fsnap_eq _ _ _).trans (by rfl)) (show Conj [_] from ?_) (n1) (by rfl) ?_)
      | ((with_reducible refine TDr.any ?_); refine TDr.callE env (by first | rfl | assumption) (by rfl) (by rfl) ?_ (m3) (by rfl) (by rfl) ?_)
      | ((with_reducible refine TDr.any ?_); refine TDr.callE env (by first | rfl | assumption) (by rfl) (by rfl) ?_ (m4) (by rfl) (by rfl) ?_)
      | exact r1
      | exact r2
      | refine GZp_i_y ?_ ?_ ?_ ?_ ?_ ?_ ?_ ?_
      | with_reducible first | exact BzZq.mk | refine Tw.ret ?_ | refine ImZq.i fun h => ?_ | refine IkZq.i fun hk => ?_)
    refine TOps.frz env 1 (e := Ey) (xs := E') (by rfl) (congrArg (fun z => some (TRow.arr Ey z)) hset) (by rfl) ?_ ?_ ?_
    · repeat' (first
        | with_reducible first | exact Conj.nil | refine Conj.cons rfl ?_ | refine Conj.same ?_ | refine Conj.ask ?_ ?_
        | ((with_reducible refine Due.mk ?_); (first | with_reducible rfl | omega | assumption | decide | ((try simp only [goS] at *) <;> (try intro h) <;> (try intro h') <;> (try simp only [goS] at *) <;> (try simp only [rdi, rdy, hlP, Int.toNat_natCast, Nat.add_zero] at *) <;> (try simp only [rng]) <;> (first | assumption | omega)) | (exact due_app0 (by omega)) | (exact due_app (by omega)) | (intros; simp; done) | (intros; simp; omega)))
        | with_reducible refine Due.mk ?_
        | omega)
    · repeat' (first
        | with_reducible first | exact Conj.nil | refine Conj.cons rfl ?_ | refine Conj.same ?_ | refine Conj.ask ?_ ?_
        | ((with_reducible refine Due.mk ?_); (first | with_reducible rfl | omega | assumption | decide | ((try simp only [goS] at *) <;> (try intro h) <;> (try intro h') <;> (try simp only [goS] at *) <;> (try simp only [rdi, rdy, hlP, Int.toNat_natCast, Nat.add_zero] at *) <;> (try simp only [rng]) <;> (first | assumption | omega)) | (exact due_app0 (by omega)) | (exact due_app (by omega)) | (intros; simp; done) | (intros; simp; omega)))
        | with_reducible refine Due.mk ?_
        | omega)
    rw [cut_all hlP.symm]
    repeat' (first
      | ((with_reducible refine TOps.any ?_); refine TOps.callV env (by rfl) (by rfl) (by rfl) (dc) ?_)
      | ((with_reducible refine TOps.any ?_); refine TOps.callE env (by rfl) (by rfl) (by rfl) ?_ (cF) (by rfl) ?_)
      | refine GZp_i_y ?_ ?_ ?_ ?_ ?_ ?_ ?_ ?_
      | with_reducible first | exact BzZq.mk | refine Tw.ret ?_ | refine ImZq.i fun h => ?_ | refine IkZq.i fun hk => ?_)
    clear dc hset hlP hE' hex hnv nvb r1 r2 r3 eI eg ea m3 m4 n1 o1 nc nc2 offL offS off0 l5 hl ec hQl qm m1 m2 cF hd wd
    have pf : ∀ x v : Nat, x < w → v < y → px w y (bm w y f) x v = f x v := fun x v hx hv => px_bm hx hv
    have pF : ∀ x v : Nat, x < w → v < y → px w y (bm w y F) x v = F x v := fun x v hx hv => px_bm hx hv
    generalize bm w y f = D1 at *
    generalize bm w y F = D2 at *
    refine Tw.loopK [1, 2, 146] (fun v : Nat => v ≤ y) (fun v => y - v) (fun v => [(147, .int .i64 v), (5, .ptr 0 0), (16, .ptr 1 0)])
      (fun _ => [some (.cells [.int .i64 w, .int .i64 y, .lst Ey (D1)]), some (.cells [.int .i64 w, .int .i64 y, .lst Ey (D2)])]) ⟨0, by omega, TWk.fcanon env [some 0, some 2] (by rfl) ?_⟩ (fun v hv => ?_)
    · repeat' (first
        | with_reducible first | exact Conj.nil | refine Conj.cons rfl ?_ | refine Conj.same ?_ | refine Conj.ask ?_ ?_
        | ((with_reducible refine Due.mk ?_); (first | with_reducible rfl | omega | assumption | decide | ((try simp only [goS] at *) <;> (try intro h) <;> (try intro h') <;> (try simp only [goS] at *) <;> (try simp only [rdi, rdy, Int.toNat_natCast, Nat.add_zero] at *) <;> (try simp only [rng]) <;> (first | assumption | omega)) | (exact due_app0 (by omega)) | (exact due_app (by omega)) | (intros; simp; done) | (intros; simp; omega)))
        | with_reducible refine Due.mk ?_
        | omega)
    rcases Nat.lt_or_ge v y with hv2 | hv2
    · repeat' (first
        | refine GZp_i_y ?_ ?_ ?_ ?_ ?_ ?_ ?_ ?_
        | with_reducible first | exact BzZq.mk | refine Tw.ret ?_ | refine ImZq.i fun h => ?_ | refine IkZq.i fun hk => ?_)
      refine Tw.loopK [1, 2, 5, 16, 18, 146, 147, 151] (fun x : Nat => x ≤ w) (fun x => w - x) (fun x => [(152, .int .i64 x)])
        (fun _ => [some (.cells [.int .i64 w, .int .i64 y, .lst Ey (D1)]), some (.cells [.int .i64 w, .int .i64 y, .lst Ey (D2)])]) ⟨0, by omega, TWk.fcanon env [some 0, some 1] (by rfl) ?_⟩ (fun x hx => ?_)
      · repeat' (first
          | with_reducible first | exact Conj.nil | refine Conj.cons rfl ?_ | refine Conj.same ?_ | refine Conj.ask ?_ ?_
          | ((with_reducible refine Due.mk ?_); (first | with_reducible rfl | omega | assumption | decide | ((try simp only [goS] at *) <;> (try intro h) <;> (try intro h') <;> (try simp only [goS] at *) <;> (try simp only [rdi, rdy, Int.toNat_natCast, Nat.add_zero] at *) <;> (try simp only [rng]) <;> (first | assumption | omega)) | (exact due_app0 (by omega)) | (exact due_app (by omega)) | (intros; simp; done) | (intros; simp; omega)))
          | with_reducible refine Due.mk ?_
          | omega)
      rcases Nat.lt_or_ge x w with hx2 | hx2
      · have qv : quo (v : Int) (r : Int) = ((v / r : Nat) : Int) := by rw [quo_nn (by omega)]; exact (Int.natCast_ediv _ _).symm
        have rq : rng .i64 (quo (v : Int) (r : Int)) := by
          have h1 := Nat.div_le_self v r
          rw [qv]
          generalize v / r = z at *
          exact ⟨by omega, by omega⟩
        have b1 := rBit_c w y (D1) x v okf (by omega) (by omega)
        have b2 := rBit_c w y (D2) x v okF (by omega) (by omega)
        rw [pf x v hx2 hv2] at b1
        rw [pF x v hx2 hv2] at b2
        by_cases hne : v / r = j
        · have hne2 : ((v / r : Nat) : Int) = (j : Int) := by omega
          repeat' (first
            | exact rq
            | refine GZp_i_y ?_ ?_ ?_ ?_ ?_ ?_ ?_ ?_
            | with_reducible first | exact BzZq.mk | refine Tw.ret ?_ | refine ImZq.i fun h => ?_ | refine IkZq.i fun hk => ?_)
          refine ⟨x + 1, by omega, by omega, TWk.fcanon env [some 0, some 1] (by rfl) ?_⟩
          repeat' (first
            | with_reducible first | exact Conj.nil | refine Conj.cons rfl ?_ | refine Conj.same ?_ | refine Conj.ask ?_ ?_
            | ((with_reducible refine Due.mk ?_); (first | with_reducible rfl | omega | assumption | decide | ((try simp only [goS] at *) <;> (try intro h) <;> (try intro h') <;> (try simp only [goS] at *) <;> (try simp only [rdi, rdy, Int.toNat_natCast, Nat.add_zero] at *) <;> (try simp only [rng]) <;> (first | assumption | omega)) | (exact due_app0 (by omega)) | (exact due_app (by omega)) | (intros; simp; done) | (intros; simp; omega)))
            | with_reducible refine Due.mk ?_
            | omega)
        · have hne2 : ((v / r : Nat) : Int) ≠ (j : Int) := by omega
          rw [same x v hv2 hne] at b2
          obtain ⟨bb, hbb⟩ : ∃ bb, bb = f x v := ⟨_, rfl⟩
          rw [← hbb] at b1 b2
          cases bb
          · repeat' (first
              | exact rq
              | ((with_reducible refine TDr.any ?_); refine TDr.callE env (by first | rfl | assumption) (by rfl) (by rfl) ?_ (b1) (by rfl) (by rfl) ?_)
              | ((with_reducible refine TDr.any ?_); refine TDr.callE env (by first | rfl | assumption) (by rfl) (by rfl) ?_ (b2) (by rfl) (by rfl) ?_)
              | refine GZp_i_y ?_ ?_ ?_ ?_ ?_ ?_ ?_ ?_
              | with_reducible first | exact BzZq.mk | refine Tw.ret ?_ | refine ImZq.i fun h => ?_ | refine IkZq.i fun hk => ?_)
            refine ⟨x + 1, by omega, by omega, TWk.fcanon env [some 0, some 1] (by rfl) ?_⟩
            repeat' (first
              | with_reducible first | exact Conj.nil | refine Conj.cons rfl ?_ | refine Conj.same ?_ | refine Conj.ask ?_ ?_
              | ((with_reducible refine Due.mk ?_); (first | with_reducible rfl | omega | assumption | decide | ((try simp only [goS] at *) <;> (try intro h) <;> (try intro h') <;> (try simp only [goS] at *) <;> (try simp only [rdi, rdy, Int.toNat_natCast, Nat.add_zero] at *) <;> (try simp only [rng]) <;> (first | assumption | omega)) | (exact due_app0 (by omega)) | (exact due_app (by omega)) | (intros; simp; done) | (intros; simp; omega)))
              | with_reducible refine Due.mk ?_
              | omega)
          · repeat' (first
              | exact rq
              | ((with_reducible refine TDr.any ?_); refine TDr.callE env (by first | rfl | assumption) (by rfl) (by rfl) ?_ (b1) (by rfl) (by rfl) ?_)
              | ((with_reducible refine TDr.any ?_); refine TDr.callE env (by first | rfl | assumption) (by rfl) (by rfl) ?_ (b2) (by rfl) (by rfl) ?_)
              | refine GZp_i_y ?_ ?_ ?_ ?_ ?_ ?_ ?_ ?_
              | with_reducible first | exact BzZq.mk | refine Tw.ret ?_ | refine ImZq.i fun h => ?_ | refine IkZq.i fun hk => ?_)
            refine ⟨x + 1, by omega, by omega, TWk.fcanon env [some 0, some 1] (by rfl) ?_⟩
            repeat' (first
              | with_reducible first | exact Conj.nil | refine Conj.cons rfl ?_ | refine Conj.same ?_ | refine Conj.ask ?_ ?_
              | ((with_reducible refine Due.mk ?_); (first | with_reducible rfl | omega | assumption | decide | ((try simp only [goS] at *) <;> (try intro h) <;> (try intro h') <;> (try simp only [goS] at *) <;> (try simp only [rdi, rdy, Int.toNat_natCast, Nat.add_zero] at *) <;> (try simp only [rng]) <;> (first | assumption | omega)) | (exact due_app0 (by omega)) | (exact due_app (by omega)) | (intros; simp; done) | (intros; simp; omega)))
              | with_reducible refine Due.mk ?_
              | omega)
      · obtain rfl : x = w := by omega
        repeat' (first
          | refine GZp_i_y ?_ ?_ ?_ ?_ ?_ ?_ ?_ ?_
          | with_reducible first | exact BzZq.mk | refine Tw.ret ?_ | refine ImZq.i fun h => ?_ | refine IkZq.i fun hk => ?_)
        refine ⟨v + 1, by omega, by omega, TWk.fcanon env [some 0, some 1] (by rfl) ?_⟩
        repeat' (first
          | with_reducible first | exact Conj.nil | refine Conj.cons rfl ?_ | refine Conj.same ?_ | refine Conj.ask ?_ ?_
          | ((with_reducible refine Due.mk ?_); (first | with_reducible rfl | omega | assumption | decide | ((try simp only [goS] at *) <;> (try intro h) <;> (try intro h') <;> (try simp only [goS] at *) <;> (try simp only [rdi, rdy, Int.toNat_natCast, Nat.add_zero] at *) <;> (try simp only [rng]) <;> (first | assumption | omega)) | (exact due_app0 (by omega)) | (exact due_app (by omega)) | (intros; simp; done) | (intros; simp; omega)))
          | with_reducible refine Due.mk ?_
          | omega)
    · obtain rfl : v = y := by omega
      repeat' (first
        | refine GZp_i_y ?_ ?_ ?_ ?_ ?_ ?_ ?_ ?_
        | with_reducible first | exact BzZq.mk | refine Tw.ret ?_ | refine ImZq.i fun h => ?_ | refine IkZq.i fun hk => ?_)
      exact ⟨rfl, rfl, rfl⟩
  · have ec := fun r => encode_n W H D r hd hc
    have ec2 := ec r
    repeat' (first
      | ((with_reducible refine TOps.any ?_); refine TOps.callV env (by rfl) (by rfl) (by rfl) (bilevelWorks_c) ?_)
      | ((with_reducible refine TOps.any ?_); refine TOps.callV env (by rfl) (by rfl) (by rfl) (m1) ?_)
      | refine GZy_i_y hr ?_ ?_ ?_ ?_ ?_ ?_ ?_ ?_
      | with_reducible first | exact BzZq.mk | refine Tw.ret ?_ | refine ImZq.i fun h => ?_ | refine IkZq.i fun hk => ?_)
    rw [hr]
    repeat' (first
      | ((with_reducible refine TOps.any ?_); refine TOps.callE env (by rfl) (by rfl) (by rfl) ?_ (ec2) (by rfl) ?_)
      | refine GZp_i_y ?_ ?_ ?_ ?_ ?_ ?_ ?_ ?_
      | with_reducible first | exact BzZq.mk | refine Tw.ret ?_ | refine ImZq.i fun h => ?_ | refine IkZq.i fun hk => ?_)
    all_goals exact ⟨rfl, congrArg TV.bool (by simp [hc]), rfl⟩
end Go.Proofs.Ytjedljdfkoagbaa
