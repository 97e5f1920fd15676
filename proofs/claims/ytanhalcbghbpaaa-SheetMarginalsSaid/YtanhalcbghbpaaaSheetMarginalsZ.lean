/- The law SheetMarginals: the pixels of the sets with an ink are those of its bitmap, and without growth and shift this is the one that was printed. -/
import Derived.Test.YtanhalcbghbpaaaSheet4
import Derived.Test.YtanhalcbghbpaaaSheetW
import Derived.Test.YtanhalcbghbpaaaPop
import Derived.Test.YtanhalcbghbpaaaRBytes
import Derived.Test.YtanhalcbghbpaaaRMod
import Derived.Test.YtanhalcbghbpaaaXSheetMarginals0
namespace Go.Proofs.Ytanhalcbghbpaaa
open Go Go.Lite
set_option linter.unusedVariables false
set_option linter.unusedSimpArgs false
set_option maxRecDepth 100000
set_option maxHeartbeats 4000000
-- @simp rdi rdy rd2i

theorem getD_at {A : Type} {l : List A} {i : Nat} {d : A} (h : i < l.length) : l.getD i d = l[i] := by simp [List.getD, h]
theorem setI_bit (w k : Nat) (l : List Bt) (j n : Nat) : ∀ m, n < m → bitI (setI w k l j m) n = px w k (l.getD n dBt).2.2 ((j % w : Nat) : Int) ((j / w : Nat) : Int) := by
  intro m
  induction m with
  | zero => intro h; omega
  | succ m ih =>
    intro h
    have bd := setI_bd w k l j m
    obtain ⟨a, ha⟩ : ∃ a : Nat, setI w k l j m = a := ⟨(setI w k l j m).toNat, by omega⟩
    have h2 : ((2 ^ m : Nat) : Int) = (2 : Int) ^ m := by simp
    have hlt : a < 2 ^ m := by omega
    have e : setI w k l j (m + 1) = setI w k l j m + if px w k (l.getD m dBt).2.2 ((j % w : Nat) : Int) ((j / w : Nat) : Int) then 2 ^ m else 0 := rfl
    by_cases hp : px w k (l.getD m dBt).2.2 ((j % w : Nat) : Int) ((j / w : Nat) : Int) = true
    · have e2 : setI w k l j (m + 1) = ((2 ^ m + a : Nat) : Int) := by rw [e, if_pos hp, ha, ← h2]; omega
      by_cases hn : n = m
      · subst hn
        rw [hp, e2]
        unfold bitI
        rw [Int.toNat_natCast, Nat.testBit_two_pow_add_eq, Nat.testBit_lt_two_pow hlt]; rfl
      · rw [← ih (by omega), e2, ha]
        unfold bitI
        rw [Int.toNat_natCast, Int.toNat_natCast, Nat.testBit_two_pow_add_gt (by omega)]
    · have e2 : setI w k l j (m + 1) = a := by rw [e, if_neg hp, ha]; omega
      by_cases hn : n = m
      · subst hn
        rw [e2]
        unfold bitI
        rw [Int.toNat_natCast, Nat.testBit_lt_two_pow hlt]; simpa using hp
      · rw [← ih (by omega), e2, ha]
theorem sum_plus {f g : Nat → Int} : ∀ {n : Nat}, sumN (fun i => f i + g i) n = sumN f n + sumN g n
  | 0 => rfl
  | n + 1 => by simp only [sumN]; rw [sum_plus]; omega
/-- Counts of sets, summed, are pixels, counted. -/
theorem cnt_sum {P : List Int} {g : Nat → Bool} {N : Nat} : ∀ {n : Nat}, (∀ j, j < n → 0 ≤ P.getD j 0 ∧ P.getD j 0 < N) → sumN (fun s => if g s then cntN P s n else 0) N = sumN (fun j => one (g (P.getD j 0).toNat)) n
  | 0, _ => sumN_zero fun i _ => by split <;> rfl
  | n + 1, h => by
    have ih := cnt_sum (P := P) (g := g) (N := N) (n := n) fun j hj => h j (by omega)
    have hn := h n (by omega)
    have hl : (P.getD n 0).toNat < N := by omega
    have z0 : sumN (fun i => if i = (P.getD n 0).toNat then 0 else if i = (P.getD n 0).toNat then one (g (P.getD n 0).toNat) else 0) N = 0 := sumN_zero fun i _ => by
      by_cases q : i = (P.getD n 0).toNat
      · rw [if_pos q]
      · rw [if_neg q, if_neg q]
    have z1 : sumN (fun s => if s = (P.getD n 0).toNat then one (g (P.getD n 0).toNat) else 0) N = one (g (P.getD n 0).toNat) := by
      rw [sumN_one (f := fun s => if s = (P.getD n 0).toNat then one (g (P.getD n 0).toNat) else 0) hl, z0, if_pos rfl]; omega
    have e3 : sumN (fun j => one (g (P.getD j 0).toNat)) (n + 1) = sumN (fun j => one (g (P.getD j 0).toNat)) n + one (g (P.getD n 0).toNat) := rfl
    rw [e3, ← ih, ← z1, ← sum_plus]
    refine sumN_congr fun s hs => ?_
    have e : cntN P s (n + 1) = cntN P s n + if P.getD n 0 = s then 1 else 0 := rfl
    rw [e]
    by_cases q : s = (P.getD n 0).toNat
    · subst q
      rw [if_pos (show P.getD n 0 = ((P.getD n 0).toNat : Int) by omega), if_pos rfl]
      unfold one
      split <;> omega
    · rw [if_neg (show ¬ P.getD n 0 = (s : Int) by omega), if_neg q]
      split <;> omega
theorem sum_ones : ∀ {n : Nat}, sumN (fun _ => one true) n = n
  | 0 => rfl
  | n + 1 => by simp only [sumN]; rw [sum_ones]; simp only [one, if_true]; omega
theorem SheetMarginals_law (l : List Bt) (r0 : Int) (wl : l.length ≤ 9223372036854775807 ∧ ∀ y ∈ l, W2iLyJ y) (_ : rng .i64 r0) (wz : 40 * l.length ≤ 140737488351232) :
    TC R Try.prog K2_SheetMarginals_f [.lst E2iLyJ l, .int .i64 r0] [] (fun v X => v = .bool true ∧ X = []) := by
  rename_i rr
  simp only [rng] at rr
  have hb : bytesOk l := fun t ht i hi => by
    have e1 : l.getD t dBt = l[t] := getD_at ht
    have h1 := wl.2 _ (List.getElem_mem ht)
    rw [← e1] at h1
    have e2 : (l.getD t dBt).2.2.getD i 0 = (l.getD t dBt).2.2[i] := getD_at hi
    have h2 := h1.2.2.2 _ (List.getElem_mem hi)
    rw [← e2] at h2
    exact h2
  have hl := wl.1
  have g0 : cut (List.replicate (l.length : Int).toNat (0 : Int)) 0 (l.length : Int).toNat = List.replicate l.length (0 : Int) := by rw [cut_all (by simp)]; rfl
  have s0 : cut (List.replicate (l.length : Int).toNat ((0 : Int), (0 : Int))) 0 (l.length : Int).toNat = List.replicate l.length ((0 : Int), (0 : Int)) := by rw [cut_all (by simp)]; rfl
  have gl : (cut (List.replicate (l.length : Int).toNat (0 : Int)) 0 (l.length : Int).toNat).length = l.length := by rw [g0, List.length_replicate]
  have sl : (cut (List.replicate (l.length : Int).toNat ((0 : Int), (0 : Int))) 0 (l.length : Int).toNat).length = l.length := by rw [s0, List.length_replicate]
  have gz : ∀ i, i < l.length → (cut (List.replicate (l.length : Int).toNat (0 : Int)) 0 (l.length : Int).toNat).getD i 0 = 0 := fun i hi => by rw [g0]; exact getD_repl hi
  have sz : ∀ i, i < l.length → (cut (List.replicate (l.length : Int).toNat ((0 : Int), (0 : Int))) 0 (l.length : Int).toNat).getD i (0, 0) = (0, 0) := fun i hi => by rw [s0]; exact getD_repl hi
  refine tc0 env K2_SheetMarginals_s (by rfl) ?_
  dsimp only [K2_SheetMarginals_c]
  have c1 : 0 ≤ (l.length : Int) ∧ (l.length : Int) ≤ l.length ∧ (l.length : Int) ≤ 281474976710656 ∧ ((8 : Nat) : Int) * (l.length : Int) ≤ 281474976710656 := by omega
  have c2 : 0 ≤ (l.length : Int) ∧ (l.length : Int) ≤ l.length ∧ (l.length : Int) ≤ 281474976710656 ∧ ((16 : Nat) : Int) * (l.length : Int) ≤ 281474976710656 := by omega
  by_cases hs : shOk l
  · have h1 := hs.1
    have h8 := hs.2.1
    obtain ⟨w, k, hw, hk, ok0⟩ := (bitsE_ok (hb 0 (by omega))).1 (hs.2.2 0 (by omega)).1
    have h0 : ∀ t, t < l.length → (l.getD t dBt).1 = w ∧ (l.getD t dBt).2.1 = k ∧ BmOk w k (l.getD t dBt).2.2 := fun t ht => by
      obtain ⟨q1, q2, q3⟩ := hs.2.2 t ht
      obtain ⟨w', k', hw', hk', ok'⟩ := (bitsE_ok (hb t ht)).1 q1
      rw [hw] at q2; rw [hk] at q3
      obtain rfl : w' = w := by omega
      obtain rfl : k' = k := by omega
      exact ⟨q2, q3, ok'⟩
    have py := print_y w k l _ _ hb gl sl gz sz hs h0
    have m1 := rMod_c r0 l.length (by unfold Due; omega)
    obtain ⟨n, hn⟩ : ∃ n : Nat, r0 % (l.length : Int) = n := ⟨(r0 % (l.length : Int)).toNat, by have := Int.emod_nonneg r0 (show (l.length : Int) ≠ 0 by omega); omega⟩
    have hnl : n < l.length := by have := Int.emod_lt_of_pos r0 (show 0 < (l.length : Int) by omega); omega
    rw [hn] at m1
    have pl : (tab (w * k) fun j => setI w k l j l.length).length = w * k := tab_len
    have pb : ∀ j, j < (tab (w * k) fun j => setI w k l j l.length).length → 0 ≤ (tab (w * k) fun j => setI w k l j l.length).getD j 0 ∧ (tab (w * k) fun j => setI w k l j l.length).getD j 0 < 2 ^ l.length := fun j hj => by
      rw [pl] at hj; rw [tab_get hj]; exact setI_bd w k l j l.length
    have p8 : (2 : Int) ^ l.length ≤ 256 := by
      have : (2 : Nat) ^ l.length ≤ 2 ^ 8 := Nat.pow_le_pow_right (by omega) h8
      have h2 : ((2 ^ l.length : Nat) : Int) = (2 : Int) ^ l.length := by simp
      omega
    have ik := ink_y w k (tab (w * k) fun j => setI w k l j l.length) n ok0.w1 ok0.h1 pl (fun j hj => by have := pb j hj; omega) (by omega)
    have hm : mskE w k (tab (w * k) fun j => setI w k l j l.length) = 0 := mskE_ok.2 ⟨by have := ok0.w1; omega, by have := ok0.w1; omega, by have := ok0.h1; omega, by have := ok0.h1; omega, by rw [pl]; simp⟩
    have ct := counts_y w k _ l.length hm ⟨h1, h8⟩ pb
    have bc := count_c w k (l.getD n dBt).2.2 (h0 n hnl).2.2
    repeat' (first
      | exact c1
      | exact c2
      | ((with_reducible refine TOps.any ?_); refine TOps.callV env (by rfl) (by rfl) (by rfl) (sheetWorks_c) ?_)
      | ((with_reducible refine TDr.any ?_); refine TDr.callN env (by first | rfl | assumption) (by rfl) (by rfl) ?_ (py) (by rfl) (by rfl) ?_)
      | with_reducible first | refine Tw.seq ?_ | refine Tw.reg ?_ | refine Tw.block ?_ | refine Tw.scope ?_ | refine Tw.skip ?_ | refine Tw.exit ?_ | refine Tw.ret ?_ | refine seqN ?_ | refine seqR ?_ | refine seqE ?_ | refine blkN ?_ | refine blkR ?_ | refine blkE1 ?_ | refine blkE0 (by kernel_rfl) ?_ | refine scpN ?_ | refine scpR ?_ | refine scpE ?_ | refine TOps.nil ?_ | exact Conj.nil | refine Conj.cons rfl ?_ | refine Conj.same ?_ | refine Conj.ask ?_ ?_ | refine Tw.regd env ?_ | refine TDr.nil ⟨by kernel_rfl, ?_⟩
      | ((with_reducible refine TOps.any ?_); first | refine TOps.frunP env (by rfl) (by rfl) ?_ ?_ | (refine TOps.known (by rfl) ?_; refine TOps.strip env (by rfl) (by rfl) ?_ ?_))
      | ((with_reducible refine TDr.any ?_); refine TDr.frunP env (by rfl) (by rfl) ?_ ?_)
      | ((with_reducible refine Tw.any ?_); first | refine Tw.condT (by rfl) ?_ | refine Tw.condF (by rfl) ?_)
      | ((first | ((with_reducible refine TOps.any ?_); (fail_if_success refine TOps.known (by rfl) ?_); refine TOps.ask (by rfl) (fun h => ?_) (fun h => ?_)) | ((with_reducible refine TDr.any ?_); (fail_if_success refine TDr.known (by first | rfl | assumption) ?_); refine TDr.ask (by rfl) (fun h hk => ?_) (fun h => ?_)) | ((with_reducible refine Tw.any ?_); refine Tw.cond (by rfl) (fun h => ?_) (fun h => ?_))) <;> (try simp only [goS] at h) <;> (try simp only [rdi, rdy, rd2i, Int.toNat_natCast, Nat.add_zero] at h) <;> (try (exfalso; (try simp only [goP, reduceCtorEq] at h) <;> (first | assumption | omega | contradiction | (rcases h with ⟨_, _⟩ <;> first | contradiction | omega) | (rcases h with h | h <;> first | contradiction | omega)))))
      | ((with_reducible refine tret.any ?_); first | refine tret.ok (by rfl) ?_ | refine tret.okN (by rfl) ?_)
      | ((with_reducible refine Due.mk ?_); (first | with_reducible rfl | omega | assumption | decide | ((try simp only [goS] at *) <;> (try intro h) <;> (try intro h') <;> (try simp only [goS] at *) <;> (try simp only [rdi, rdy, rd2i, Int.toNat_natCast, Nat.add_zero] at *) <;> (try simp only [rng]) <;> (first | assumption | omega)) | (exact due_app0 (by omega)) | (exact due_app (by omega)) | (intros; simp; done) | (intros; simp; omega)))
      | with_reducible refine Due.mk ?_
      | omega)
    refine TOps.frz env 2 (by rfl) (by rfl) (by rfl) ?_ ?_ ?_
    · repeat' (first
        | with_reducible first | refine Tw.seq ?_ | refine Tw.reg ?_ | refine Tw.block ?_ | refine Tw.scope ?_ | refine Tw.skip ?_ | refine Tw.exit ?_ | refine Tw.ret ?_ | refine seqN ?_ | refine seqR ?_ | refine seqE ?_ | refine blkN ?_ | refine blkR ?_ | refine blkE1 ?_ | refine blkE0 (by kernel_rfl) ?_ | refine scpN ?_ | refine scpR ?_ | refine scpE ?_ | refine TOps.nil ?_ | exact Conj.nil | refine Conj.cons rfl ?_ | refine Conj.same ?_ | refine Conj.ask ?_ ?_ | refine Tw.regd env ?_ | refine TDr.nil ⟨by kernel_rfl, ?_⟩
        | ((with_reducible refine TOps.any ?_); first | refine TOps.frunP env (by rfl) (by rfl) ?_ ?_ | (refine TOps.known (by rfl) ?_; refine TOps.strip env (by rfl) (by rfl) ?_ ?_))
        | ((with_reducible refine TDr.any ?_); refine TDr.frunP env (by rfl) (by rfl) ?_ ?_)
        | ((with_reducible refine Tw.any ?_); first | refine Tw.condT (by rfl) ?_ | refine Tw.condF (by rfl) ?_)
        | ((first | ((with_reducible refine TOps.any ?_); (fail_if_success refine TOps.known (by rfl) ?_); refine TOps.ask (by rfl) (fun h => ?_) (fun h => ?_)) | ((with_reducible refine TDr.any ?_); (fail_if_success refine TDr.known (by first | rfl | assumption) ?_); refine TDr.ask (by rfl) (fun h hk => ?_) (fun h => ?_)) | ((with_reducible refine Tw.any ?_); refine Tw.cond (by rfl) (fun h => ?_) (fun h => ?_))) <;> (try simp only [goS] at h) <;> (try simp only [rdi, rdy, rd2i, Int.toNat_natCast, Nat.add_zero] at h))
        | ((with_reducible refine tret.any ?_); first | refine tret.ok (by rfl) ?_ | refine tret.okN (by rfl) ?_)
        | ((with_reducible refine Due.mk ?_); (first | with_reducible rfl | omega | assumption | decide | ((try simp only [goS] at *) <;> (try intro h) <;> (try intro h') <;> (try simp only [goS] at *) <;> (try simp only [rdi, rdy, rd2i, Int.toNat_natCast, Nat.add_zero] at *) <;> (try simp only [rng]) <;> (first | assumption | omega)) | (exact due_app0 (by omega)) | (exact due_app (by omega)) | (intros; simp; done) | (intros; simp; omega)))
        | with_reducible refine Due.mk ?_
        | omega)
      all_goals (rw [pl]; omega)
    · repeat' (first
        | with_reducible first | refine Tw.seq ?_ | refine Tw.reg ?_ | refine Tw.block ?_ | refine Tw.scope ?_ | refine Tw.skip ?_ | refine Tw.exit ?_ | refine Tw.ret ?_ | refine seqN ?_ | refine seqR ?_ | refine seqE ?_ | refine blkN ?_ | refine blkR ?_ | refine blkE1 ?_ | refine blkE0 (by kernel_rfl) ?_ | refine scpN ?_ | refine scpR ?_ | refine scpE ?_ | refine TOps.nil ?_ | exact Conj.nil | refine Conj.cons rfl ?_ | refine Conj.same ?_ | refine Conj.ask ?_ ?_ | refine Tw.regd env ?_ | refine TDr.nil ⟨by kernel_rfl, ?_⟩
        | ((with_reducible refine TOps.any ?_); first | refine TOps.frunP env (by rfl) (by rfl) ?_ ?_ | (refine TOps.known (by rfl) ?_; refine TOps.strip env (by rfl) (by rfl) ?_ ?_))
        | ((with_reducible refine TDr.any ?_); refine TDr.frunP env (by rfl) (by rfl) ?_ ?_)
        | ((with_reducible refine Tw.any ?_); first | refine Tw.condT (by rfl) ?_ | refine Tw.condF (by rfl) ?_)
        | ((first | ((with_reducible refine TOps.any ?_); (fail_if_success refine TOps.known (by rfl) ?_); refine TOps.ask (by rfl) (fun h => ?_) (fun h => ?_)) | ((with_reducible refine TDr.any ?_); (fail_if_success refine TDr.known (by first | rfl | assumption) ?_); refine TDr.ask (by rfl) (fun h hk => ?_) (fun h => ?_)) | ((with_reducible refine Tw.any ?_); refine Tw.cond (by rfl) (fun h => ?_) (fun h => ?_))) <;> (try simp only [goS] at h) <;> (try simp only [rdi, rdy, rd2i, Int.toNat_natCast, Nat.add_zero] at h))
        | ((with_reducible refine tret.any ?_); first | refine tret.ok (by rfl) ?_ | refine tret.okN (by rfl) ?_)
        | ((with_reducible refine Due.mk ?_); (first | with_reducible rfl | omega | assumption | decide | ((try simp only [goS] at *) <;> (try intro h) <;> (try intro h') <;> (try simp only [goS] at *) <;> (try simp only [rdi, rdy, rd2i, Int.toNat_natCast, Nat.add_zero] at *) <;> (try simp only [rng]) <;> (first | assumption | omega)) | (exact due_app0 (by omega)) | (exact due_app (by omega)) | (intros; simp; done) | (intros; simp; omega)))
        | with_reducible refine Due.mk ?_
        | omega)
      all_goals (rw [pl]; omega)
    rw [cut_tab]
    have hB : (bm w k fun x y => bitI ((tab (w * k) fun j => setI w k l j l.length).getD (y * w + x) 0) n) = (l.getD n dBt).2.2 := by
      rw [ok_is (h0 n hnl).2.2]
      refine bm_congr fun x y hx hy => ?_
      obtain ⟨e1, e2⟩ := (lin_key (w := w) (i := y * w + x) (by omega) hx).1 rfl
      rw [tab_get (by
        have h2 : (y + 1) * w ≤ k * w := Nat.mul_le_mul_right _ hy
        rw [Nat.mul_comm w k]
        rw [Nat.add_mul] at h2
        omega), setI_bit w k l _ n _ hnl, ← e1, ← e2]
    rw [hB] at ik
    generalize hP : (tab (w * k) fun j => setI w k l j l.length) = P at *
    have sc : TC R Try.prog R2_SameBits_f [.agg [.int .i64 w, .int .i64 k, .lst Ey (l.getD n dBt).2.2], .agg [.int .i64 (l.getD n dBt).1, .int .i64 (l.getD n dBt).2.1, .lst Ey (l.getD n dBt).2.2]] [] (fun v X => v = .bool true ∧ X = []) := by
      have := sameBits_c w k (l.getD n dBt).1 (l.getD n dBt).2.1 (l.getD n dBt).2.2 (l.getD n dBt).2.2 (h0 n hnl).2.2.byte (h0 n hnl).2.2.byte
      rw [decide_eq_true ⟨(h0 n hnl).1.symm, (h0 n hnl).2.1.symm, rfl⟩] at this
      exact this
    rw [← (h0 n hnl).1, ← (h0 n hnl).2.1] at bc
    have tl : (tab (2 ^ l.length) fun s => cntN P s P.length).length = 2 ^ l.length := tab_len
    have sh : (1 : Int) * 2 ^ l.length = ((2 ^ l.length : Nat) : Int) := by simp
    have N8 : (2 : Nat) ^ l.length ≤ 256 := Nat.pow_le_pow_right (n := 2) (by omega) h8
    have hN : ∀ j, j < P.length → 0 ≤ P.getD j 0 ∧ P.getD j 0 < ((2 ^ l.length : Nat) : Int) := fun j hj => by have := pb j hj; rw [← sh]; omega
    have allS := cnt_sum (P := P) (g := fun _ => true) (N := 2 ^ l.length) (n := P.length) hN
    rw [sum_ones, pl] at allS
    simp only [if_true] at allS
    have setS := cnt_sum (P := P) (g := fun s => bitI s n) (N := 2 ^ l.length) (n := P.length) hN
    have hpop : sumN (fun j => one (bitI (((P.getD j 0).toNat : Nat) : Int) n)) P.length = popL (l.getD n dBt).2.2 := by
      rw [← hB, pop_bm (by have := ok0.w1; omega), pl, sumN_grid]
      refine sumN_congr fun y hy => sumN_congr fun x hx => ?_
      rw [Nat.mul_comm w y]
      rfl
    rw [hpop, pl] at setS
    repeat' (first
      | ((with_reducible refine TOps.any ?_); refine TOps.callV env (by rfl) (by rfl) (by rfl) (m1) ?_)
      | ((with_reducible refine TOps.any ?_); refine TOps.callV env (by rfl) (by rfl) (by rfl) (ik) ?_)
      | ((with_reducible refine TOps.any ?_); refine TOps.callV env (by rfl) (by rfl) (by rfl) (ct) ?_)
      | ((with_reducible refine TOps.any ?_); refine TOps.callV env (by rfl) (by rfl) (by rfl) (bc) ?_)
      | ((with_reducible refine TDr.any ?_); refine TDr.callE env (by first | rfl | assumption) (by rfl) (by rfl) ?_ (sc) (by rfl) (by rfl) ?_)
      | with_reducible first | refine Tw.seq ?_ | refine Tw.reg ?_ | refine Tw.block ?_ | refine Tw.scope ?_ | refine Tw.skip ?_ | refine Tw.exit ?_ | refine Tw.ret ?_ | refine seqN ?_ | refine seqR ?_ | refine seqE ?_ | refine blkN ?_ | refine blkR ?_ | refine blkE1 ?_ | refine blkE0 (by kernel_rfl) ?_ | refine scpN ?_ | refine scpR ?_ | refine scpE ?_ | refine TOps.nil ?_ | exact Conj.nil | refine Conj.cons rfl ?_ | refine Conj.same ?_ | refine Conj.ask ?_ ?_ | refine Tw.regd env ?_ | refine TDr.nil ⟨by kernel_rfl, ?_⟩
      | ((with_reducible refine TOps.any ?_); first | refine TOps.frunP env (by rfl) (by rfl) ?_ ?_ | (refine TOps.known (by rfl) ?_; refine TOps.strip env (by rfl) (by rfl) ?_ ?_))
      | ((with_reducible refine TDr.any ?_); refine TDr.frunP env (by rfl) (by rfl) ?_ ?_)
      | ((with_reducible refine Tw.any ?_); first | refine Tw.condT (by rfl) ?_ | refine Tw.condF (by rfl) ?_)
      | ((first | ((with_reducible refine TOps.any ?_); (fail_if_success refine TOps.known (by rfl) ?_); refine TOps.ask (by rfl) (fun h => ?_) (fun h => ?_)) | ((with_reducible refine TDr.any ?_); (fail_if_success refine TDr.known (by first | rfl | assumption) ?_); refine TDr.ask (by rfl) (fun h hk => ?_) (fun h => ?_)) | ((with_reducible refine Tw.any ?_); refine Tw.cond (by rfl) (fun h => ?_) (fun h => ?_))) <;> (try simp only [goS] at h) <;> (try simp only [rdi, rdy, rd2i, tl, sh, Int.toNat_natCast, Nat.add_zero] at h) <;> (try (exfalso; (try simp only [goP, reduceCtorEq] at h) <;> (first | assumption | omega | contradiction | (rcases h with ⟨_, _⟩ <;> first | contradiction | omega) | (rcases h with h | h <;> first | contradiction | omega)))))
      | ((with_reducible refine tret.any ?_); first | refine tret.ok (by rfl) ?_ | refine tret.okN (by rfl) ?_)
      | ((with_reducible refine Due.mk ?_); (first | with_reducible rfl | omega | assumption | decide | ((try simp only [goS] at *) <;> (try intro h) <;> (try intro h') <;> (try simp only [goS] at *) <;> (try simp only [rdi, rdy, rd2i, tl, sh, Int.toNat_natCast, Nat.add_zero] at *) <;> (try simp only [rng]) <;> (first | assumption | omega)) | (exact due_app0 (by omega)) | (exact due_app (by omega)) | (intros; simp; done) | (intros; simp; omega)))
      | with_reducible refine Due.mk ?_
      | omega)
    have wk20 : w * k ≤ 1024 * 1024 := Nat.mul_le_mul ok0.w1.2 ok0.h1.2
    have cb : ∀ s, 0 ≤ cntN P s (w * k) ∧ cntN P s (w * k) ≤ ((w * k : Nat) : Int) := fun s => cntN_bd P s (w * k)
    have Sb : ∀ i, i ≤ 2 ^ l.length → 0 ≤ sumN (fun s => cntN P s (w * k)) i ∧ sumN (fun s => cntN P s (w * k)) i ≤ ((w * k : Nat) : Int) := fun i hi =>
      ⟨sumN_nonneg fun s _ => (cb s).1, by have := sumN_mono (f := fun s => cntN P s (w * k)) hi fun s _ => (cb s).1; omega⟩
    have Db : ∀ i, 0 ≤ sumN (fun (s : Nat) => if bitI (s : Int) n = true then cntN P s (w * k) else 0) i ∧ sumN (fun (s : Nat) => if bitI (s : Int) n = true then cntN P s (w * k) else 0) i ≤ sumN (fun s => cntN P s (w * k)) i := fun i =>
      ⟨sumN_nonneg fun s _ => by have := cb s; split <;> omega, sumN_le fun s _ => by have := cb s; split <;> omega⟩
    have pb2 := Db (2 ^ l.length)
    rw [allS, setS] at pb2
    refine Tw.loopK [1, 101, 102] (fun i : Nat => i ≤ 2 ^ l.length) (fun i => 2 ^ l.length - i) (fun i => [(5, .ptr 0 0), (103, .int .i64 i), (13, .int .i64 (sumN (fun s => cntN P s (w * k)) i)), (11, .int .i64 (popL (l.getD n dBt).2.2 - sumN (fun (s : Nat) => if bitI (s : Int) n = true then cntN P s (w * k) else 0) i))])
      (fun i => [some (.cells [.int .i64 w, .int .i64 k, .lst Ey P])]) ⟨0, by omega, TWk.fcanon env [some 3] (by rfl) ?_⟩ (fun i hi => ?_)
    · repeat' (first
        | with_reducible first | refine Tw.seq ?_ | refine Tw.reg ?_ | refine Tw.block ?_ | refine Tw.scope ?_ | refine Tw.skip ?_ | refine Tw.exit ?_ | refine Tw.ret ?_ | refine seqN ?_ | refine seqR ?_ | refine seqE ?_ | refine blkN ?_ | refine blkR ?_ | refine blkE1 ?_ | refine blkE0 (by kernel_rfl) ?_ | refine scpN ?_ | refine scpR ?_ | refine scpE ?_ | refine TOps.nil ?_ | exact Conj.nil | refine Conj.cons rfl ?_ | refine Conj.same ?_ | refine Conj.ask ?_ ?_ | refine Tw.regd env ?_ | refine TDr.nil ⟨by kernel_rfl, ?_⟩
        | ((with_reducible refine TOps.any ?_); first | refine TOps.frunP env (by rfl) (by rfl) ?_ ?_ | (refine TOps.known (by rfl) ?_; refine TOps.strip env (by rfl) (by rfl) ?_ ?_))
        | ((with_reducible refine TDr.any ?_); refine TDr.frunP env (by rfl) (by rfl) ?_ ?_)
        | ((with_reducible refine Tw.any ?_); first | refine Tw.condT (by rfl) ?_ | refine Tw.condF (by rfl) ?_)
        | ((first | ((with_reducible refine TOps.any ?_); (fail_if_success refine TOps.known (by rfl) ?_); refine TOps.ask (by rfl) (fun h => ?_) (fun h => ?_)) | ((with_reducible refine TDr.any ?_); (fail_if_success refine TDr.known (by first | rfl | assumption) ?_); refine TDr.ask (by rfl) (fun h hk => ?_) (fun h => ?_)) | ((with_reducible refine Tw.any ?_); refine Tw.cond (by rfl) (fun h => ?_) (fun h => ?_))) <;> (try simp only [goS] at h) <;> (try simp only [rdi, rdy, rd2i, sumN, Int.sub_zero, Int.toNat_natCast, Nat.add_zero] at h))
        | ((with_reducible refine tret.any ?_); first | refine tret.ok (by rfl) ?_ | refine tret.okN (by rfl) ?_)
        | ((with_reducible refine Due.mk ?_); (first | with_reducible rfl | omega | assumption | decide | ((try simp only [goS] at *) <;> (try intro h) <;> (try intro h') <;> (try simp only [goS] at *) <;> (try simp only [rdi, rdy, rd2i, sumN, Int.sub_zero, Int.toNat_natCast, Nat.add_zero] at *) <;> (try simp only [rng]) <;> (first | assumption | omega)) | (exact due_app0 (by omega)) | (exact due_app (by omega)) | (intros; simp; done) | (intros; simp; omega)))
        | with_reducible refine Due.mk ?_
        | omega)
    rcases Nat.lt_or_ge i (2 ^ l.length) with hi | hi
    · have Si := Sb i (by omega)
      have Si2 := Sb (i + 1) (by omega)
      have Di := Db i
      have Di2 := Db (i + 1)
      have ci := cb i
      have tg : (tab (2 ^ l.length) fun s => cntN P s P.length).getD i 0 = cntN P i (w * k) := by rw [tab_get hi, pl]
      have e1 : sumN (fun s => cntN P s (w * k)) (i + 1) = sumN (fun s => cntN P s (w * k)) i + cntN P i (w * k) := rfl
      have e2 : sumN (fun (s : Nat) => if bitI (s : Int) n = true then cntN P s (w * k) else 0) (i + 1) = sumN (fun (s : Nat) => if bitI (s : Int) n = true then cntN P s (w * k) else 0) i + if bitI (i : Int) n = true then cntN P i (w * k) else 0 := rfl
      have hbb := bitI_is (v := (i : Int)) (n := n) (by omega)
      have ve : (i : Int) / 2 ^ n = ((i / 2 ^ n : Nat) : Int) := by simp
      have vl := Nat.div_le_self i (2 ^ n)
      have vd : 0 ≤ (i : Int) / 2 ^ n := by rw [ve]; exact Int.natCast_nonneg _
      have vr : rng .i64 ((i : Int) / 2 ^ n) := by
        rw [ve]; simp only [rng]
        generalize i / 2 ^ n = z at *
        omega
      by_cases hbt : bitI (i : Int) n = true
      · rw [if_pos hbt] at e2
        repeat' (first
          | exact vd
          | exact vr
          | with_reducible first | refine Tw.seq ?_ | refine Tw.reg ?_ | refine Tw.block ?_ | refine Tw.scope ?_ | refine Tw.skip ?_ | refine Tw.exit ?_ | refine Tw.ret ?_ | refine seqN ?_ | refine seqR ?_ | refine seqE ?_ | refine blkN ?_ | refine blkR ?_ | refine blkE1 ?_ | refine blkE0 (by kernel_rfl) ?_ | refine scpN ?_ | refine scpR ?_ | refine scpE ?_ | refine TOps.nil ?_ | exact Conj.nil | refine Conj.cons rfl ?_ | refine Conj.same ?_ | refine Conj.ask ?_ ?_ | refine Tw.regd env ?_ | refine TDr.nil ⟨by kernel_rfl, ?_⟩
          | ((with_reducible refine TOps.any ?_); first | refine TOps.frunP env (by rfl) (by rfl) ?_ ?_ | (refine TOps.known (by rfl) ?_; refine TOps.strip env (by rfl) (by rfl) ?_ ?_))
          | ((with_reducible refine TDr.any ?_); refine TDr.frunP env (by rfl) (by rfl) ?_ ?_)
          | ((with_reducible refine Tw.any ?_); first | refine Tw.condT (by rfl) ?_ | refine Tw.condF (by rfl) ?_)
          | ((first | ((with_reducible refine TOps.any ?_); (fail_if_success refine TOps.known (by rfl) ?_); refine TOps.ask (by rfl) (fun h => ?_) (fun h => ?_)) | ((with_reducible refine TDr.any ?_); (fail_if_success refine TDr.known (by first | rfl | assumption) ?_); refine TDr.ask (by rfl) (fun h hk => ?_) (fun h => ?_)) | ((with_reducible refine Tw.any ?_); refine Tw.cond (by rfl) (fun h => ?_) (fun h => ?_))) <;> (try simp only [goS] at h) <;> (try simp only [rdi, rdy, rd2i, tl, tg, hbb, hbt, Int.toNat_natCast, Nat.add_zero] at h) <;> (try (exfalso; (try simp only [goP, reduceCtorEq] at h) <;> (first | assumption | omega | contradiction | (rcases h with ⟨_, _⟩ <;> first | contradiction | omega) | (rcases h with h | h <;> first | contradiction | omega)))))
          | ((with_reducible refine tret.any ?_); first | refine tret.ok (by rfl) ?_ | refine tret.okN (by rfl) ?_)
          | ((with_reducible refine Due.mk ?_); (first | with_reducible rfl | omega | assumption | decide | ((try simp only [goS] at *) <;> (try intro h) <;> (try intro h') <;> (try simp only [goS] at *) <;> (try simp only [rdi, rdy, rd2i, tl, tg, hbb, hbt, Int.toNat_natCast, Nat.add_zero] at *) <;> (try simp only [rng]) <;> (first | assumption | omega)) | (exact due_app0 (by omega)) | (exact due_app (by omega)) | (intros; simp; done) | (intros; simp; omega)))
          | with_reducible refine Due.mk ?_
          | omega)
        refine ⟨i + 1, by omega, by omega, TWk.fcanon env [some 0] (by rfl) ?_⟩
        rw [e1, e2, ← Int.sub_sub]
        repeat' (first
          | with_reducible first | refine Tw.seq ?_ | refine Tw.reg ?_ | refine Tw.block ?_ | refine Tw.scope ?_ | refine Tw.skip ?_ | refine Tw.exit ?_ | refine Tw.ret ?_ | refine seqN ?_ | refine seqR ?_ | refine seqE ?_ | refine blkN ?_ | refine blkR ?_ | refine blkE1 ?_ | refine blkE0 (by kernel_rfl) ?_ | refine scpN ?_ | refine scpR ?_ | refine scpE ?_ | refine TOps.nil ?_ | exact Conj.nil | refine Conj.cons rfl ?_ | refine Conj.same ?_ | refine Conj.ask ?_ ?_ | refine Tw.regd env ?_ | refine TDr.nil ⟨by kernel_rfl, ?_⟩
          | ((with_reducible refine TOps.any ?_); first | refine TOps.frunP env (by rfl) (by rfl) ?_ ?_ | (refine TOps.known (by rfl) ?_; refine TOps.strip env (by rfl) (by rfl) ?_ ?_))
          | ((with_reducible refine TDr.any ?_); refine TDr.frunP env (by rfl) (by rfl) ?_ ?_)
          | ((with_reducible refine Tw.any ?_); first | refine Tw.condT (by rfl) ?_ | refine Tw.condF (by rfl) ?_)
          | ((first | ((with_reducible refine TOps.any ?_); (fail_if_success refine TOps.known (by rfl) ?_); refine TOps.ask (by rfl) (fun h => ?_) (fun h => ?_)) | ((with_reducible refine TDr.any ?_); (fail_if_success refine TDr.known (by first | rfl | assumption) ?_); refine TDr.ask (by rfl) (fun h hk => ?_) (fun h => ?_)) | ((with_reducible refine Tw.any ?_); refine Tw.cond (by rfl) (fun h => ?_) (fun h => ?_))) <;> (try simp only [goS] at h) <;> (try simp only [rdi, rdy, rd2i, tg, Int.toNat_natCast, Nat.add_zero] at h))
          | ((with_reducible refine tret.any ?_); first | refine tret.ok (by rfl) ?_ | refine tret.okN (by rfl) ?_)
          | ((with_reducible refine Due.mk ?_); (first | with_reducible rfl | omega | assumption | decide | ((try simp only [goS] at *) <;> (try intro h) <;> (try intro h') <;> (try simp only [goS] at *) <;> (try simp only [rdi, rdy, rd2i, tg, Int.toNat_natCast, Nat.add_zero] at *) <;> (try simp only [rng]) <;> (first | assumption | omega)) | (exact due_app0 (by omega)) | (exact due_app (by omega)) | (intros; simp; done) | (intros; simp; omega)))
          | with_reducible refine Due.mk ?_
          | omega)
      · rw [if_neg hbt, Int.add_zero] at e2
        repeat' (first
          | exact vd
          | exact vr
          | with_reducible first | refine Tw.seq ?_ | refine Tw.reg ?_ | refine Tw.block ?_ | refine Tw.scope ?_ | refine Tw.skip ?_ | refine Tw.exit ?_ | refine Tw.ret ?_ | refine seqN ?_ | refine seqR ?_ | refine seqE ?_ | refine blkN ?_ | refine blkR ?_ | refine blkE1 ?_ | refine blkE0 (by kernel_rfl) ?_ | refine scpN ?_ | refine scpR ?_ | refine scpE ?_ | refine TOps.nil ?_ | exact Conj.nil | refine Conj.cons rfl ?_ | refine Conj.same ?_ | refine Conj.ask ?_ ?_ | refine Tw.regd env ?_ | refine TDr.nil ⟨by kernel_rfl, ?_⟩
          | ((with_reducible refine TOps.any ?_); first | refine TOps.frunP env (by rfl) (by rfl) ?_ ?_ | (refine TOps.known (by rfl) ?_; refine TOps.strip env (by rfl) (by rfl) ?_ ?_))
          | ((with_reducible refine TDr.any ?_); refine TDr.frunP env (by rfl) (by rfl) ?_ ?_)
          | ((with_reducible refine Tw.any ?_); first | refine Tw.condT (by rfl) ?_ | refine Tw.condF (by rfl) ?_)
          | ((first | ((with_reducible refine TOps.any ?_); (fail_if_success refine TOps.known (by rfl) ?_); refine TOps.ask (by rfl) (fun h => ?_) (fun h => ?_)) | ((with_reducible refine TDr.any ?_); (fail_if_success refine TDr.known (by first | rfl | assumption) ?_); refine TDr.ask (by rfl) (fun h hk => ?_) (fun h => ?_)) | ((with_reducible refine Tw.any ?_); refine Tw.cond (by rfl) (fun h => ?_) (fun h => ?_))) <;> (try simp only [goS] at h) <;> (try simp only [rdi, rdy, rd2i, tl, tg, hbb, hbt, Int.toNat_natCast, Nat.add_zero] at h) <;> (try (exfalso; (try simp only [goP, reduceCtorEq] at h) <;> (first | assumption | omega | contradiction | (rcases h with ⟨_, _⟩ <;> first | contradiction | omega) | (rcases h with h | h <;> first | contradiction | omega)))))
          | ((with_reducible refine tret.any ?_); first | refine tret.ok (by rfl) ?_ | refine tret.okN (by rfl) ?_)
          | ((with_reducible refine Due.mk ?_); (first | with_reducible rfl | omega | assumption | decide | ((try simp only [goS] at *) <;> (try intro h) <;> (try intro h') <;> (try simp only [goS] at *) <;> (try simp only [rdi, rdy, rd2i, tl, tg, hbb, hbt, Int.toNat_natCast, Nat.add_zero] at *) <;> (try simp only [rng]) <;> (first | assumption | omega)) | (exact due_app0 (by omega)) | (exact due_app (by omega)) | (intros; simp; done) | (intros; simp; omega)))
          | with_reducible refine Due.mk ?_
          | omega)
        refine ⟨i + 1, by omega, by omega, TWk.fcanon env [some 0] (by rfl) ?_⟩
        rw [e1, e2]
        repeat' (first
          | with_reducible first | refine Tw.seq ?_ | refine Tw.reg ?_ | refine Tw.block ?_ | refine Tw.scope ?_ | refine Tw.skip ?_ | refine Tw.exit ?_ | refine Tw.ret ?_ | refine seqN ?_ | refine seqR ?_ | refine seqE ?_ | refine blkN ?_ | refine blkR ?_ | refine blkE1 ?_ | refine blkE0 (by kernel_rfl) ?_ | refine scpN ?_ | refine scpR ?_ | refine scpE ?_ | refine TOps.nil ?_ | exact Conj.nil | refine Conj.cons rfl ?_ | refine Conj.same ?_ | refine Conj.ask ?_ ?_ | refine Tw.regd env ?_ | refine TDr.nil ⟨by kernel_rfl, ?_⟩
          | ((with_reducible refine TOps.any ?_); first | refine TOps.frunP env (by rfl) (by rfl) ?_ ?_ | (refine TOps.known (by rfl) ?_; refine TOps.strip env (by rfl) (by rfl) ?_ ?_))
          | ((with_reducible refine TDr.any ?_); refine TDr.frunP env (by rfl) (by rfl) ?_ ?_)
          | ((with_reducible refine Tw.any ?_); first | refine Tw.condT (by rfl) ?_ | refine Tw.condF (by rfl) ?_)
          | ((first | ((with_reducible refine TOps.any ?_); (fail_if_success refine TOps.known (by rfl) ?_); refine TOps.ask (by rfl) (fun h => ?_) (fun h => ?_)) | ((with_reducible refine TDr.any ?_); (fail_if_success refine TDr.known (by first | rfl | assumption) ?_); refine TDr.ask (by rfl) (fun h hk => ?_) (fun h => ?_)) | ((with_reducible refine Tw.any ?_); refine Tw.cond (by rfl) (fun h => ?_) (fun h => ?_))) <;> (try simp only [goS] at h) <;> (try simp only [rdi, rdy, rd2i, tg, Int.toNat_natCast, Nat.add_zero] at h))
          | ((with_reducible refine tret.any ?_); first | refine tret.ok (by rfl) ?_ | refine tret.okN (by rfl) ?_)
          | ((with_reducible refine Due.mk ?_); (first | with_reducible rfl | omega | assumption | decide | ((try simp only [goS] at *) <;> (try intro h) <;> (try intro h') <;> (try simp only [goS] at *) <;> (try simp only [rdi, rdy, rd2i, tg, Int.toNat_natCast, Nat.add_zero] at *) <;> (try simp only [rng]) <;> (first | assumption | omega)) | (exact due_app0 (by omega)) | (exact due_app (by omega)) | (intros; simp; done) | (intros; simp; omega)))
          | with_reducible refine Due.mk ?_
          | omega)
    · obtain rfl : i = 2 ^ l.length := by omega
      repeat' (first
        | with_reducible first | refine Tw.seq ?_ | refine Tw.reg ?_ | refine Tw.block ?_ | refine Tw.scope ?_ | refine Tw.skip ?_ | refine Tw.exit ?_ | refine Tw.ret ?_ | refine seqN ?_ | refine seqR ?_ | refine seqE ?_ | refine blkN ?_ | refine blkR ?_ | refine blkE1 ?_ | refine blkE0 (by kernel_rfl) ?_ | refine scpN ?_ | refine scpR ?_ | refine scpE ?_ | refine TOps.nil ?_ | exact Conj.nil | refine Conj.cons rfl ?_ | refine Conj.same ?_ | refine Conj.ask ?_ ?_ | refine Tw.regd env ?_ | refine TDr.nil ⟨by kernel_rfl, ?_⟩
        | ((with_reducible refine TOps.any ?_); first | refine TOps.frunP env (by rfl) (by rfl) ?_ ?_ | (refine TOps.known (by rfl) ?_; refine TOps.strip env (by rfl) (by rfl) ?_ ?_))
        | ((with_reducible refine TDr.any ?_); refine TDr.frunP env (by rfl) (by rfl) ?_ ?_)
        | ((with_reducible refine Tw.any ?_); first | refine Tw.condT (by rfl) ?_ | refine Tw.condF (by rfl) ?_)
        | ((first | ((with_reducible refine TOps.any ?_); (fail_if_success refine TOps.known (by rfl) ?_); refine TOps.ask (by rfl) (fun h => ?_) (fun h => ?_)) | ((with_reducible refine TDr.any ?_); (fail_if_success refine TDr.known (by first | rfl | assumption) ?_); refine TDr.ask (by rfl) (fun h hk => ?_) (fun h => ?_)) | ((with_reducible refine Tw.any ?_); refine Tw.cond (by rfl) (fun h => ?_) (fun h => ?_))) <;> (try simp only [goS] at h) <;> (try simp only [rdi, rdy, rd2i, tl, Int.toNat_natCast, Nat.add_zero] at h) <;> (try (exfalso; (try simp only [goP, reduceCtorEq] at h) <;> (first | assumption | omega | contradiction | (rcases h with ⟨_, _⟩ <;> first | contradiction | omega) | (rcases h with h | h <;> first | contradiction | omega)))))
        | ((with_reducible refine tret.any ?_); first | refine tret.ok (by rfl) ?_ | refine tret.okN (by rfl) ?_)
        | ((with_reducible refine Due.mk ?_); (first | with_reducible rfl | omega | assumption | decide | ((try simp only [goS] at *) <;> (try intro h) <;> (try intro h') <;> (try simp only [goS] at *) <;> (try simp only [rdi, rdy, rd2i, tl, Int.toNat_natCast, Nat.add_zero] at *) <;> (try simp only [rng]) <;> (first | assumption | omega)) | (exact due_app0 (by omega)) | (exact due_app (by omega)) | (intros; simp; done) | (intros; simp; omega)))
        | with_reducible refine Due.mk ?_
        | omega)
      refine ⟨rfl, congrArg TV.bool ?_, rfl⟩
      rw [allS, setS]
      simp
  · have pn := print_n l _ _ hb hl gl sl gz sz hs
    have hn : ¬ shE l = 0 := fun e => hs (shE_ok.1 e)
    repeat' (first
      | exact c1
      | exact c2
      | ((with_reducible refine TOps.any ?_); refine TOps.callV env (by rfl) (by rfl) (by rfl) (sheetWorks_c) ?_)
      | ((with_reducible refine TDr.any ?_); refine TDr.callE env (by first | rfl | assumption) (by rfl) (by rfl) ?_ (pn) (by rfl) (by rfl) ?_)
      | with_reducible first | refine Tw.seq ?_ | refine Tw.reg ?_ | refine Tw.block ?_ | refine Tw.scope ?_ | refine Tw.skip ?_ | refine Tw.exit ?_ | refine Tw.ret ?_ | refine seqN ?_ | refine seqR ?_ | refine seqE ?_ | refine blkN ?_ | refine blkR ?_ | refine blkE1 ?_ | refine blkE0 (by kernel_rfl) ?_ | refine scpN ?_ | refine scpR ?_ | refine scpE ?_ | refine TOps.nil ?_ | exact Conj.nil | refine Conj.cons rfl ?_ | refine Conj.same ?_ | refine Conj.ask ?_ ?_ | refine Tw.regd env ?_ | refine TDr.nil ⟨by kernel_rfl, ?_⟩
      | ((with_reducible refine TOps.any ?_); first | refine TOps.frunP env (by rfl) (by rfl) ?_ ?_ | (refine TOps.known (by rfl) ?_; refine TOps.strip env (by rfl) (by rfl) ?_ ?_))
      | ((with_reducible refine TDr.any ?_); refine TDr.frunP env (by rfl) (by rfl) ?_ ?_)
      | ((with_reducible refine Tw.any ?_); first | refine Tw.condT (by rfl) ?_ | refine Tw.condF (by rfl) ?_)
      | ((first | ((with_reducible refine TOps.any ?_); (fail_if_success refine TOps.known (by rfl) ?_); refine TOps.ask (by rfl) (fun h => ?_) (fun h => ?_)) | ((with_reducible refine TDr.any ?_); (fail_if_success refine TDr.known (by first | rfl | assumption) ?_); refine TDr.ask (by rfl) (fun h hk => ?_) (fun h => ?_)) | ((with_reducible refine Tw.any ?_); refine Tw.cond (by rfl) (fun h => ?_) (fun h => ?_))) <;> (try simp only [goS] at h) <;> (try simp only [rdi, rdy, rd2i, Int.toNat_natCast, Nat.add_zero] at h) <;> (try (exfalso; (try simp only [goP, reduceCtorEq] at h) <;> (first | assumption | omega | contradiction | (rcases h with ⟨_, _⟩ <;> first | contradiction | omega) | (rcases h with h | h <;> first | contradiction | omega)))))
      | ((with_reducible refine tret.any ?_); first | refine tret.ok (by rfl) ?_ | refine tret.okN (by rfl) ?_)
      | ((with_reducible refine Due.mk ?_); (first | with_reducible rfl | omega | assumption | decide | ((try simp only [goS] at *) <;> (try intro h) <;> (try intro h') <;> (try simp only [goS] at *) <;> (try simp only [rdi, rdy, rd2i, Int.toNat_natCast, Nat.add_zero] at *) <;> (try simp only [rng]) <;> (first | assumption | omega)) | (exact due_app0 (by omega)) | (exact due_app (by omega)) | (intros; simp; done) | (intros; simp; omega)))
      | with_reducible refine Due.mk ?_
      | omega)
    refine ⟨rfl, congrArg TV.bool ?_, rfl⟩
    simp [hn]
end Go.Proofs.Ytanhalcbghbpaaa
