/- Compressed bitmaps: a stripe of a file, all of them. -/
import Derived.Test.YtjedljdfkoagbaaBl10
import Derived.Test.YtjedljdfkoagbaaBl7
import Derived.Test.YtjedljdfkoagbaaGo
namespace Go.Proofs.Ytjedljdfkoagbaa
open Go Go.Lite
set_option linter.unusedVariables false
set_option linter.unusedSimpArgs false
set_option maxRecDepth 100000
set_option maxHeartbeats 4000000
-- @simp rdi rdy

theorem bm_app {w a b : Nat} {f : Nat → Nat → Bool} (hw : 0 < w) : bm w a f ++ bm w b (fun x v => f x (a + v)) = bm w (a + b) f := by
  have h0 : 0 < st w := st_pos hw
  refine ext_getD 0 (by rw [List.length_append, bm_len, bm_len, bm_len, Nat.mul_add]) fun i hi => ?_
  rw [List.length_append, bm_len, bm_len] at hi
  rw [bm_get (show i < st w * (a + b) by rw [Nat.mul_add]; exact hi)]
  rcases Nat.lt_or_ge i (st w * a) with h1 | h1
  · rw [getD_app1 (by rw [bm_len]; exact h1), bm_get h1]
  · rw [getD_app2 (by rw [bm_len]; exact h1), bm_len, bm_get (by omega)]
    obtain ⟨j, rfl⟩ : ∃ j, i = st w * a + j := ⟨i - st w * a, by omega⟩
    rw [Nat.add_sub_cancel_left]
    unfold bmB
    rw [Nat.mul_add_mod, Nat.mul_add_div h0]
theorem hK_min {y r k : Nat} (hk : k * r ≤ y) : min (r : Int) ((y : Int) - (k : Int) * (r : Int)) = ((hK y r k : Nat) : Int) := by
  have e : (k : Int) * (r : Int) = ((k * r : Nat) : Int) := by simp
  rw [e]
  unfold hK
  rw [Nat.add_mul, Nat.one_mul]
  omega
theorem stripe_c (w y r m k : Nat) (Q : Nat → List Int) (g : Nat → Nat → Bool) (hk : k < m) (hy : 1 ≤ y ∧ y ≤ 1024) (hr : 1 ≤ r ∧ r ≤ 64) (hm : m = (y + r - 1) / r)
    (hU : UnpC (Q k) w (hK y r k) g) :
    TC R Try.prog __bilevel_head__stripe_f [.ptr 0 0, .int .i64 k] [some (.cells [.int .i64 w, .int .i64 y, .int .i64 r, .lst ELyJ (tab m Q)])] (fun v X => v = .tup [.agg [.int .i64 w, .int .i64 (hK y r k), .lst Ey (bm w (hK y r k) g)], .int .i64 0] ∧ X = [some (.cells [.int .i64 w, .int .i64 y, .int .i64 r, .lst ELyJ (tab m Q)])]) := by
  have kb := hK_bd hr.1 (show k < (y + r - 1) / r by rw [← hm]; exact hk)
  have e1 : (tab m Q).getD (Int.toNat k) (R.d ELyJ) = Q k := by rw [Int.toNat_natCast]; exact tab_get hk
  have e2 := hK_min (y := y) (r := r) (k := k) (by omega)
  have e3 : (k : Int) * (r : Int) = ((k * r : Nat) : Int) := by simp
  have lt : (tab m Q).length = m := tab_len
  have hU2 : TC R Try.prog bilevel_Unpack_f [.lst Ey ((tab m Q).getD (Int.toNat k) (R.d ELyJ)), .int .i64 w, .int .i64 (min (r : Int) ((y : Int) - (k : Int) * (r : Int)))] [] (fun v X => v = .tup [.agg [.int .i64 w, .int .i64 (hK y r k), .sla 1 0 0 (st w * hK y r k)], .int .i64 0] ∧ X = [some (.arr Ey (bm w (hK y r k) g))]) := by rw [e1, e2]; exact hU
  refine TC.cut ?_
  refine tc env __bilevel_head__stripe_s (by rfl) ?_
  dsimp only [__bilevel_head__stripe_c]
  have z0 : 0 + st w * hK y r k ≤ (bm w (hK y r k) g).length := by rw [bm_len]; omega
  have b1 : -9223372036854775808 ≤ (k : Int) * (r : Int) ∧ (k : Int) * (r : Int) ≤ 9223372036854775807 := by rw [e3]; omega
  have b2 : -9223372036854775808 ≤ (y : Int) - (k : Int) * (r : Int) ∧ (y : Int) - (k : Int) * (r : Int) ≤ 9223372036854775807 := by rw [e3]; omega
  repeat' (first
    | ((with_reducible refine TDr.any ?_); refine TDr.callN env (by first | rfl | assumption) (by rfl) (by rfl) ?_ (hU2) (by rfl) (by rfl) ?_)
    | exact b1
    | exact b2
    | exact z0
    | ((with_reducible refine Tw.retI ?_); refine Tw.frz env 2 (by rfl) (by rfl) (by rfl) ?_ ?_ (Tw.ret ?_))
    | refine GZy_i_y lt ?_ ?_ ?_ ?_ ?_ ?_ ?_ ?_
    | with_reducible first | exact BzZq.mk | refine Tw.ret ?_ | refine ImZq.i fun h => ?_ | refine IkZq.i fun hk => ?_)
  rw [cut_all bm_len.symm]
  exact ⟨rfl, rfl, rfl, rfl⟩
theorem stripes_c (w y r m : Nat) (Q : Nat → List Int) (hw : 1 ≤ w ∧ w ≤ 1024) (hy : 1 ≤ y ∧ y ≤ 1024) (hr : 1 ≤ r ∧ r ≤ 64) (hm : m = (y + r - 1) / r) (hl : (genB w y r Q m).length ≤ 1048576) :
    TC R Try.prog bilevel_Stripes_f [.lst Ey (genB w y r Q m)] [] (fun v X => v = .tup [.int .i64 m, .int .i64 0] ∧ X = []) := by
  have cc := cut_c w y r Q m hw hy hr hm hl
  have lt : (tab m Q).length = m := tab_len
  refine tc0 env bilevel_Stripes_s (by rfl) ?_
  dsimp only [bilevel_Stripes_c]
  repeat' (first
    | ((with_reducible refine TOps.any ?_); refine TOps.callV env (by rfl) (by rfl) (by rfl) (cc) ?_)
    | refine GZy_i_y lt ?_ ?_ ?_ ?_ ?_ ?_ ?_ ?_
    | with_reducible first | exact BzZq.mk | refine Tw.ret ?_ | refine ImZq.i fun h => ?_ | refine IkZq.i fun hk => ?_)
  rw [lt]
  exact ⟨rfl, rfl, rfl⟩
theorem decode_b (w y r m : Nat) (Q : Nat → List Int) (G : Nat → Nat → Nat → Bool) (hw : 1 ≤ w ∧ w ≤ 1024) (hy : 1 ≤ y ∧ y ≤ 1024) (hr : 1 ≤ r ∧ r ≤ 64) (hm : m = (y + r - 1) / r) (hl : (genB w y r Q m).length ≤ 1048576)
    (hU : ∀ k, k < m → UnpC (Q k) w (hK y r k) (G k)) :
    TC R Try.prog bilevel_Decode_f [.lst Ey (genB w y r Q m)] [] (fun v X => v = .tup [.agg [.int .i64 w, .int .i64 y, .lst Ey (bm w y fun x v => G (v / r) x (v % r))], .int .i64 0] ∧ X = []) := by
  have cc := cut_c w y r Q m hw hy hr hm hl
  have lt : (tab m Q).length = m := tab_len
  have mb : m ≤ 1087 := by
    rw [hm]
    exact Nat.le_trans (Nat.div_le_self _ _) (by omega)
  obtain ⟨D, hD⟩ : ∃ D : Nat → List Int, D = fun k => bm w (min (k * r) y) fun x v => G (v / r) x (v % r) := ⟨_, rfl⟩
  have lD : ∀ k, (D k).length ≤ 131072 := fun k => by
    rw [hD]
    simp only
    rw [bm_len]
    exact Nat.le_trans (Nat.mul_le_mul (show st w ≤ 128 by unfold st; omega) (show min (k * r) y ≤ 1024 by omega)) (by omega)
  have D0 : D 0 = [] := by
    rw [hD]
    refine List.eq_nil_of_length_eq_zero ?_
    simp only
    rw [bm_len, Nat.zero_mul, Nat.zero_min]; rfl
  have DS : ∀ k, k < m → D (k + 1) = D k ++ bm w (hK y r k) (G k) := fun k hk => by
    have kb := hK_bd hr.1 (show k < (y + r - 1) / r by rw [← hm]; exact hk)
    have e1 : min (k * r) y = k * r := by omega
    have e2 : min ((k + 1) * r) y = k * r + hK y r k := by
      have : hK y r k = min ((k + 1) * r) y - k * r := rfl
      have : k * r ≤ (k + 1) * r := Nat.mul_le_mul_right _ (by omega)
      omega
    rw [hD]
    simp only
    rw [e1, e2, ← bm_app (a := k * r) (b := hK y r k) (by omega)]
    congr 1
    refine bm_congr fun x v _ hv => ?_
    rw [Nat.mul_comm k r, Nat.mul_add_div (by omega), Nat.mul_add_mod, Nat.div_eq_of_lt (by omega), Nat.mod_eq_of_lt (by omega), Nat.add_zero]
  have Dm : D m = bm w y fun x v => G (v / r) x (v % r) := by
    rw [hD]
    simp only
    have h1 : y + r - 1 < r * (m + 1) := by rw [hm]; exact Nat.lt_mul_div_succ _ (by omega)
    rw [Nat.mul_add, Nat.mul_comm] at h1
    rw [show min (m * r) y = y by omega]
  refine tc0 env bilevel_Decode_s (by rfl) ?_
  dsimp only [bilevel_Decode_c]
  repeat' (first
    | ((with_reducible refine TOps.any ?_); refine TOps.callV env (by rfl) (by rfl) (by rfl) (cc) ?_)
    | refine GZy_i_y lt ?_ ?_ ?_ ?_ ?_ ?_ ?_ ?_
    | with_reducible first | exact BzZq.mk | refine Tw.ret ?_ | refine ImZq.i fun h => ?_ | refine IkZq.i fun hk => ?_)
  rw [lt]
  refine Tw.loopK [2, 4, 6, 26] (fun k : Nat => k ≤ m) (fun k => m - k) (fun k => [(27, .int .i64 k)])
    (fun k => [some (.cells [.int .i64 0, .int .i64 0, .nils]), some (.cells [.int .i64 w, .int .i64 y, .int .i64 r, .lst ELyJ (tab m Q)]), some (.cells [.int .i64 w, .int .i64 y, .sla 1 3 0 (D k).length]), some (.arr Ey (D k))])
    ⟨0, by omega, ?_⟩ (fun k hk => ?_)
  · rw [D0]
    refine TWk.fcanon env [some 0, some 1, some 2, none] (by rfl) ?_
    repeat' (first
      | with_reducible first | exact Conj.nil | refine Conj.cons rfl ?_ | refine Conj.same ?_ | refine Conj.ask ?_ ?_
      | ((with_reducible refine Due.mk ?_); (first | with_reducible rfl | omega | assumption | decide | ((try simp only [goS] at *) <;> (try intro h) <;> (try intro h') <;> (try simp only [goS] at *) <;> (try simp only [rdi, rdy, Int.toNat_natCast, Nat.add_zero] at *) <;> (try simp only [rng]) <;> (first | assumption | omega)) | (exact due_app0 (by omega)) | (exact due_app (by omega)) | (intros; simp; done) | (intros; simp; omega)))
      | with_reducible refine Due.mk ?_
      | omega)
  rcases Nat.lt_or_ge k m with hk2 | hk2
  · have sc := stripe_c w y r m k Q (G k) hk2 hy hr hm (hU k hk2)
    have ds := DS k hk2
    have l1 := lD k
    have l2 := lD (k + 1)
    obtain ⟨B, hB⟩ : ∃ B, B = bm w (hK y r k) (G k) := ⟨_, rfl⟩
    rw [← hB] at sc ds
    obtain ⟨E, hE⟩ : ∃ E, E = D k := ⟨_, rfl⟩
    rw [← hE] at ds l1 ⊢
    have ln : (D (k + 1)).length = E.length + B.length := by rw [ds, List.length_append]
    have ds2 : D (k + 1) = cut E 0 E.length ++ B := by rw [ds, cut_full]
    have z1 : (E.length + B.length) * 1 ≤ 140737488355328 ∧ E.length + B.length ≤ 140737488355328 := by omega
    repeat' (first
      | ((with_reducible refine TOps.any ?_); refine TOps.callHE env [1] (sc) (by rfl) (by rfl) (by rfl) (by rfl) (by rfl) (by rfl) (by repeat' (first | exact trivial | refine ⟨rfl, ?_⟩)) ?_)
      | exact z1
      | refine GZy_i_y lt ?_ ?_ ?_ ?_ ?_ ?_ ?_ ?_
      | with_reducible first | exact BzZq.mk | refine Tw.ret ?_ | refine ImZq.i fun h => ?_ | refine IkZq.i fun hk => ?_)
    refine ⟨k + 1, by omega, by omega, TWk.fcanon env [some 0, some 1, some 2, some 5] (by rfl) ?_⟩
    repeat' (first | exact trivial | refine ⟨rfl, ?_⟩ | refine ⟨ln, ?_⟩ | refine ⟨ds2, ?_⟩)
  · obtain rfl : k = m := by omega
    repeat' (first
      | ((with_reducible refine Tw.retI ?_); refine Tw.frz env 3 (by rfl) (by rfl) (by rfl) ?_ ?_ (Tw.ret ?_))
      | refine GZp_i_y ?_ ?_ ?_ ?_ ?_ ?_ ?_ ?_
      | with_reducible first | exact BzZq.mk | refine Tw.ret ?_ | refine ImZq.i fun h => ?_ | refine IkZq.i fun hk => ?_)
    rw [cut_full, Dm]
    exact ⟨rfl, rfl, rfl⟩
end Go.Proofs.Ytjedljdfkoagbaa
