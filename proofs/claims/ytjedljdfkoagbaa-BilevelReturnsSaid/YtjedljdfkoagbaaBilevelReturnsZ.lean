/- The law BilevelReturns. -/
import Derived.Test.YtjedljdfkoagbaaBlW
import Derived.Test.YtjedljdfkoagbaaRBytes
import Derived.Test.YtjedljdfkoagbaaRMod
import Derived.Test.YtjedljdfkoagbaaXBilevelReturns0
import Derived.Test.YtjedljdfkoagbaaGo
namespace Go.Proofs.Ytjedljdfkoagbaa
open Go Go.Lite
set_option linter.unusedVariables false
set_option linter.unusedSimpArgs false
set_option maxRecDepth 100000
set_option maxHeartbeats 4000000
-- @macs Bits3
-- @simp rdi rdy

theorem fromCrop_c (w k : Nat) (a b u v : Int) (d : List Int) (g : Nat → Nat → Bool) (hw : Due (1 ≤ w ∧ w ≤ 1024)) (hk : Due (1 ≤ k ∧ k ≤ 1024))
    (hf : ∀ x y : Nat, x < w → y < k → TC R Try.prog bitmap_Crop_1_f [.int .i64 x, .int .i64 y, .pel [.int .i64 a, .int .i64 b, .lst Ey d], .pel [.int .i64 u], .pel [.int .i64 v]] [] (fun v X => v = .bool (g x y) ∧ X = [])) :
    TC R Try.prog bitmap_from_f [.int .i64 w, .int .i64 k, .fn bitmap_Crop_1_f [.pel [.int .i64 a, .int .i64 b, .lst Ey d], .pel [.int .i64 u], .pel [.int .i64 v]]] [] (fun v X => v = .agg [.int .i64 w, .int .i64 k, .sla 1 0 0 (st w * k)] ∧ X = [some (.arr Ey (bm w k g))]) := by
  dsimp only [Due] at hw hk
  have hlb := len_bd hw hk
  have sb := st_bd hw
  have bc := blank_c w k hw hk
  rw [bm_congr (g := upto g 0 0) fun x y _ _ => upto_none.symm] at bc
  have raw : TC R Try.prog bitmap_from_f [.int .i64 w, .int .i64 k, .fn bitmap_Crop_1_f [.pel [.int .i64 a, .int .i64 b, .lst Ey d], .pel [.int .i64 u], .pel [.int .i64 v]]] [] (fun v X => v = .agg [.int .i64 w, .int .i64 k, .sla 1 1 0 (st w * k)] ∧ ∃ a b, X = [a, some (.arr Ey (bm w k g)), b]) := by
    refine tc env bitmap_from_s (by rfl) ?_
    dsimp only [bitmap_from_c]
    repeat' (first
      | ((with_reducible refine TOps.any ?_); refine TOps.callV env (by rfl) (by rfl) (by rfl) (bc) ?_)
      | refine GZp_i_y ?_ ?_ ?_ ?_ ?_ ?_ ?_ ?_
      | with_reducible first | exact BzZq.mk | refine Tw.ret ?_ | refine ImZq.i fun h => ?_ | refine IkZq.i fun hk => ?_)
    refine Tw.loopK [0, 1, 2] (fun y : Nat => y ≤ k) (fun y => k - y) (fun y => [(13, .int .i64 k), (14, .int .i64 y), (6, .ptr 0 0), (7, .ptr 2 0)])
      (fun y => [some (.cells [.int .i64 0, .int .i64 0, .nils]), some (.arr Ey (bm w k (upto g 0 y))), some (.cells [.int .i64 w, .int .i64 k, .sla 1 1 0 (st w * k)])]) ⟨0, by omega, TWk.fcanon env [some 0, some 1, some 2] (by rfl) ?_⟩ (fun y hy => ?_)
    · repeat' (first
        | with_reducible first | exact Conj.nil | refine Conj.cons rfl ?_ | refine Conj.same ?_ | refine Conj.ask ?_ ?_
        | ((with_reducible refine Due.mk ?_); (first | with_reducible rfl | omega | assumption | decide | ((try simp only [goS] at *) <;> (try intro h) <;> (try intro h') <;> (try simp only [goS] at *) <;> (try simp only [rdi, rdy, Int.toNat_natCast, Nat.add_zero] at *) <;> (try simp only [rng]) <;> (first | assumption | omega)) | (exact due_app0 (by omega)) | (exact due_app (by omega)) | (intros; simp; done) | (intros; simp; omega)))
        | with_reducible refine Due.mk ?_
        | omega)
    rcases Nat.lt_or_ge y k with hy | hy
    · repeat' (first
        | refine GZp_i_y ?_ ?_ ?_ ?_ ?_ ?_ ?_ ?_
        | with_reducible first | exact BzZq.mk | refine Tw.ret ?_ | refine ImZq.i fun h => ?_ | refine IkZq.i fun hk => ?_)
      refine Tw.loopK [0, 1, 2, 13, 14, 6, 7, 8] (fun x : Nat => x ≤ w) (fun x => w - x) (fun x => [(17, .int .i64 w), (18, .int .i64 x)])
        (fun x => [some (.cells [.int .i64 0, .int .i64 0, .nils]), some (.arr Ey (bm w k (upto g x y))), some (.cells [.int .i64 w, .int .i64 k, .sla 1 1 0 (st w * k)])]) ⟨0, by omega, TWk.fcanon env [some 0, some 1, some 2] (by rfl) ?_⟩ (fun x hx => ?_)
      · repeat' (first
          | with_reducible first | exact Conj.nil | refine Conj.cons rfl ?_ | refine Conj.same ?_ | refine Conj.ask ?_ ?_
          | ((with_reducible refine Due.mk ?_); (first | with_reducible rfl | omega | assumption | decide | ((try simp only [goS] at *) <;> (try intro h) <;> (try intro h') <;> (try simp only [goS] at *) <;> (try simp only [rdi, rdy, Int.toNat_natCast, Nat.add_zero] at *) <;> (try simp only [rng]) <;> (first | assumption | omega)) | (exact due_app0 (by omega)) | (exact due_app (by omega)) | (intros; simp; done) | (intros; simp; omega)))
          | with_reducible refine Due.mk ?_
          | omega)
      rcases Nat.lt_or_ge x w with hx | hx
      · have fc := hf x y hx hy
        have hbd := bm_bd (w := w) (h := k) (f := upto g x y) (at8_lt hx hy)
        have hbl := bm_len (w := w) (h := k) (f := upto g x y)
        have hmk := bm_mark (f := upto g x y) hx hy
        have mc := mark_c w k (bm w k (upto g x y)) x y hw hk hbl hbd hx hy
        rw [hmk] at mc
        cases hg : g x y
        · rw [hg] at fc
          rw [bm_congr fun i j _ _ => upto_no hg i j] at *
          repeat' (first
            | ((with_reducible refine TOps.any ?_); refine TOps.callV env (by rfl) (by rfl) (by rfl) (fc) ?_)
            | refine GZp_i_y ?_ ?_ ?_ ?_ ?_ ?_ ?_ ?_
            | with_reducible first | exact BzZq.mk | refine Tw.ret ?_ | refine ImZq.i fun h => ?_ | refine IkZq.i fun hk => ?_)
          refine ⟨x + 1, by omega, by omega, TWk.fcanon env [some 0, some 1, some 2] (by rfl) ?_⟩
          repeat' (first
            | with_reducible first | exact Conj.nil | refine Conj.cons rfl ?_ | refine Conj.same ?_ | refine Conj.ask ?_ ?_
            | ((with_reducible refine Due.mk ?_); (first | with_reducible rfl | omega | assumption | decide | ((try simp only [goS] at *) <;> (try intro h) <;> (try intro h') <;> (try simp only [goS] at *) <;> (try simp only [rdi, rdy, Int.toNat_natCast, Nat.add_zero] at *) <;> (try simp only [rng]) <;> (first | assumption | omega)) | (exact due_app0 (by omega)) | (exact due_app (by omega)) | (intros; simp; done) | (intros; simp; omega)))
            | with_reducible refine Due.mk ?_
            | omega)
        · rw [hg] at fc
          rw [bm_congr (f := fun i j => upto g x y i j || (decide (i = x) && decide (j = y))) fun i j _ _ => upto_yes hg i j] at mc
          repeat' (first
            | ((with_reducible refine TOps.any ?_); refine TOps.callV env (by rfl) (by rfl) (by rfl) (fc) ?_)
            | ((with_reducible refine TOps.any ?_); refine TOps.callHE env [2, 1] (mc) (by rfl) (by rfl) (by rfl) (by rfl) (by rfl) (by rfl) (by repeat' (first | exact trivial | refine ⟨rfl, ?_⟩)) ?_)
            | refine GZp_i_y ?_ ?_ ?_ ?_ ?_ ?_ ?_ ?_
            | with_reducible first | exact BzZq.mk | refine Tw.ret ?_ | refine ImZq.i fun h => ?_ | refine IkZq.i fun hk => ?_)
          refine ⟨x + 1, by omega, by omega, TWk.fcanon env [some 0, some 1, some 2] (by rfl) ?_⟩
          repeat' (first
            | with_reducible first | exact Conj.nil | refine Conj.cons rfl ?_ | refine Conj.same ?_ | refine Conj.ask ?_ ?_
            | ((with_reducible refine Due.mk ?_); (first | with_reducible rfl | omega | assumption | decide | ((try simp only [goS] at *) <;> (try intro h) <;> (try intro h') <;> (try simp only [goS] at *) <;> (try simp only [rdi, rdy, Int.toNat_natCast, Nat.add_zero] at *) <;> (try simp only [rng]) <;> (first | assumption | omega)) | (exact due_app0 (by omega)) | (exact due_app (by omega)) | (intros; simp; done) | (intros; simp; omega)))
            | with_reducible refine Due.mk ?_
            | omega)
      · obtain rfl : x = w := by omega
        rw [bm_congr fun i j hi _ => upto_row (g := g) (y := y) hi]
        repeat' (first
          | refine GZp_i_y ?_ ?_ ?_ ?_ ?_ ?_ ?_ ?_
          | with_reducible first | exact BzZq.mk | refine Tw.ret ?_ | refine ImZq.i fun h => ?_ | refine IkZq.i fun hk => ?_)
        refine ⟨y + 1, by omega, by omega, TWk.fcanon env [some 0, some 1, some 2] (by rfl) ?_⟩
        repeat' (first
          | with_reducible first | exact Conj.nil | refine Conj.cons rfl ?_ | refine Conj.same ?_ | refine Conj.ask ?_ ?_
          | ((with_reducible refine Due.mk ?_); (first | with_reducible rfl | omega | assumption | decide | ((try simp only [goS] at *) <;> (try intro h) <;> (try intro h') <;> (try simp only [goS] at *) <;> (try simp only [rdi, rdy, Int.toNat_natCast, Nat.add_zero] at *) <;> (try simp only [rng]) <;> (first | assumption | omega)) | (exact due_app0 (by omega)) | (exact due_app (by omega)) | (intros; simp; done) | (intros; simp; omega)))
          | with_reducible refine Due.mk ?_
          | omega)
    · obtain rfl : y = k := by omega
      rw [bm_congr fun i j _ hj => upto_all (g := g) hj]
      have hbl := bm_len (w := w) (h := y) (f := g)
      repeat' (first
        | refine GZp_i_y ?_ ?_ ?_ ?_ ?_ ?_ ?_ ?_
        | with_reducible first | exact BzZq.mk | refine Tw.ret ?_ | refine ImZq.i fun h => ?_ | refine IkZq.i fun hk => ?_)
      exact ⟨rfl, _, _, rfl⟩
  refine raw.wk fun v X h => ?_
  obtain ⟨rfl, a_, b_, rfl⟩ := h
  refine ⟨_, [some (.arr Ey (bm w k g))], TWk.fcanon env [some 1] (F' := [(0, .agg [.int .i64 w, .int .i64 k, .sla 1 0 0 (st w * k)])]) (by rfl) ?_, rfl, rfl⟩
  repeat' (first
    | with_reducible first | exact Conj.nil | refine Conj.cons rfl ?_ | refine Conj.same ?_ | refine Conj.ask ?_ ?_
    | ((with_reducible refine Due.mk ?_); (first | with_reducible rfl | omega | assumption | decide | ((try simp only [goS] at *) <;> (try intro h) <;> (try intro h') <;> (try simp only [goS] at *) <;> (try simp only [rdi, rdy, Int.toNat_natCast, Nat.add_zero] at *) <;> (try simp only [rng]) <;> (first | assumption | omega)) | (exact due_app0 (by omega)) | (exact due_app (by omega)) | (intros; simp; done) | (intros; simp; omega)))
    | with_reducible refine Due.mk ?_
    | omega)

theorem crop_c (w h x y a b : Nat) (f : Nat → Nat → Bool) (hw : 1 ≤ w ∧ w ≤ 1024) (hh : 1 ≤ h ∧ h ≤ 1024) (ha : 1 ≤ a) (hb : 1 ≤ b) (hx : x + a ≤ w) (hy : y + b ≤ h) :
    TC R Try.prog bitmap_Crop_f [.agg [.int .i64 w, .int .i64 h, .lst Ey (bm w h f)], .int .i64 x, .int .i64 y, .int .i64 a, .int .i64 b] []
      (fun v X => v = .tup [.agg [.int .i64 a, .int .i64 b, .lst Ey (bm a b fun i j => f (x + i) (y + j))], .int .i64 0] ∧ X = []) := by
  have ok := bm_ok (f := f) hw hh
  have cc := bCheck_y w h (bm w h f) ok
  have fr := fromCrop_c a b w h x y (bm w h f) (fun i j => f (x + i) (y + j)) (by unfold Due; omega) (by unfold Due; omega) (fun i j hi hj => by
    have ic := is_c w h (bm w h f) ((x : Int) + i) ((y : Int) + j) ok
    rw [show (x : Int) + i = ((x + i : Nat) : Int) by omega, show (y : Int) + j = ((y + j : Nat) : Int) by omega, px_bm (by omega) (by omega)] at ic
    have e1 : (x : Int) + (i : Int) = ((x + i : Nat) : Int) := by omega
    have e2 : (y : Int) + (j : Int) = ((y + j : Nat) : Int) := by omega
    refine tc0 env bitmap_Crop_1_s (by rfl) ?_
    dsimp only [bitmap_Crop_1_c]
    repeat' (first
      | ((with_reducible refine TOps.any ?_); refine TOps.callV env (by rfl) (by rfl) (by rfl) (ic) ?_)
      | refine GZy_i_y (And.intro e1 e2) ?_ ?_ ?_ ?_ ?_ ?_ ?_ ?_
      | with_reducible first | exact BzZq.mk | refine Tw.ret ?_ | refine ImZq.i fun h => ?_ | refine IkZq.i fun hk => ?_)
    exact ⟨rfl, rfl, rfl⟩)
  have hle : 0 + st a * b ≤ (bm a b fun i j => f (x + i) (y + j)).length := by rw [bm_len]; omega
  refine tc0 env bitmap_Crop_s (by rfl) ?_
  dsimp only [bitmap_Crop_c]
  repeat' (first
    | ((with_reducible refine TOps.any ?_); refine TOps.callE env (by rfl) (by rfl) (by rfl) ?_ (cc) (by rfl) ?_)
    | ((with_reducible refine TOps.any ?_); refine TOps.callE env (by rfl) (by rfl) (by rfl) ?_ (fr) (by rfl) ?_)
    | exact hle
    | ((with_reducible refine Tw.retI ?_); refine Tw.frz env 4 (by rfl) (by rfl) (by rfl) ?_ ?_ (Tw.ret ?_))
    | refine GZp_i_y ?_ ?_ ?_ ?_ ?_ ?_ ?_ ?_
    | with_reducible first | exact BzZq.mk | refine Tw.ret ?_ | refine ImZq.i fun h => ?_ | refine IkZq.i fun hk => ?_)
  rw [cut_all bm_len.symm]
  exact ⟨rfl, rfl, rfl⟩
theorem BilevelReturns_law (W H : Int) (D : List Int) (r0 k0 : Int) (_ : rng .i64 W) (_ : rng .i64 H) (wd : D.length ≤ 9223372036854775807 ∧ ∀ y ∈ D, Wy y) (_ : rng .i64 r0) (_ : rng .i64 k0) :
    TC R Try.prog K2_BilevelReturns_f [.agg [.int .i64 W, .int .i64 H, .lst Ey D], .int .i64 r0, .int .i64 k0] [] (fun v X => v = .bool true ∧ X = []) := by
  rename_i rW rH rr rk
  simp only [rng] at rr rk
  have hd := bytesW2 wd.2
  have m1 := rMod_c r0 64 (by unfold Due; omega)
  obtain ⟨r, hr⟩ : ∃ r : Nat, 1 + r0 % 64 = r := ⟨(1 + r0 % 64).toNat, by omega⟩
  have hr2 : 1 ≤ r ∧ r ≤ 64 := by omega
  refine tc0 env K2_BilevelReturns_s (by rfl) ?_
  dsimp only [K2_BilevelReturns_c]
  by_cases hc : bitsE W H D = 0
  · obtain ⟨w, y, rfl, rfl, ok⟩ := (bitsE_ok hd).1 hc
    by_cases hs : 64 < (w : Int) ∨ 40 < (y : Int)
    · repeat' (first
        | ((with_reducible refine TOps.any ?_); refine TOps.callV env (by rfl) (by rfl) (by rfl) (bilevelWorks_c) ?_)
        | refine GZp_i_y ?_ ?_ ?_ ?_ ?_ ?_ ?_ ?_
        | with_reducible first | exact BzZq.mk | refine Tw.ret ?_ | refine ImZq.i fun h => ?_ | refine IkZq.i fun hk => ?_)
      all_goals exact ⟨rfl, rfl, rfl⟩
    have hw : 1 ≤ w ∧ w ≤ 64 := ⟨ok.w1.1, by omega⟩
    have hy : 1 ≤ y ∧ y ≤ 40 := ⟨ok.h1.1, by omega⟩
    obtain ⟨f, hf⟩ : ∃ f : Nat → Nat → Bool, D = bm w y f := ⟨_, ok_is ok⟩
    subst hf
    obtain ⟨m, hm⟩ : ∃ m, m = (y + r - 1) / r := ⟨_, rfl⟩
    have hm1 : 1 ≤ m ∧ m ≤ 103 := by
      rw [hm]
      exact ⟨(Nat.le_div_iff_mul_le (by omega)).2 (by omega), Nat.le_trans (Nat.div_le_self _ _) (by omega)⟩
    obtain ⟨k, hk⟩ : ∃ k : Nat, k0 % (m : Int) = k := ⟨(k0 % (m : Int)).toNat, by
      have := Int.emod_nonneg k0 (show (m : Int) ≠ 0 by omega)
      omega⟩
    have hk2 : k < m := by
      have := Int.emod_lt_of_pos k0 (show (0 : Int) < m by omega)
      omega
    have m2 := rMod_c k0 m (by unfold Due; omega)
    rw [hk] at m2
    have kb := hK_bd (h := y) hr2.1 (show k < (y + r - 1) / r by rw [← hm]; exact hk2)
    have ec := encode_b w y r f m (by omega) (by omega) hr2 hm (fun j hj => enB_small hw.2 hy.2 hr2 (by rw [← hm]; exact hj))
    have hl : (genB w y r (sB w y r f) m).length ≤ 1048576 := enB_small hw.2 hy.2 hr2 (by rw [← hm]; exact Nat.le_refl _)
    have hU : ∀ j, j < m → UnpC (sB w y r f j) w (hK y r j) (fK f r j) := fun j hj => by
      have jb := hK_bd (h := y) hr2.1 (show j < (y + r - 1) / r by rw [← hm]; exact hj)
      exact unpack_s w (hK y r j) (fK f r j) (by omega) (by omega)
    have dc := decode_b w y r m (sB w y r f) (fK f r) (by omega) (by omega) hr2 hm hl hU
    have sc := stripes_c w y r m (sB w y r f) (by omega) (by omega) hr2 hm hl
    have tc := bstripe_c w y r m k (sB w y r f) (fK f r k) hk2 (by omega) (by omega) hr2 hm hl (hU k hk2)
    have ed : (bm w y fun x v => fK f r (v / r) x (v % r)) = bm w y f := bm_congr fun x v _ _ => by
      unfold fK
      rw [Nat.mul_comm, Nat.div_add_mod]
    rw [ed] at dc
    have cr := crop_c w y 0 (k * r) w (hK y r k) f (by omega) (by omega) (by omega) (by omega) (by omega) (by omega)
    have ec2 : (bm w (hK y r k) fun i j => f (0 + i) (k * r + j)) = bm w (hK y r k) (fK f r k) := bm_congr fun x v _ _ => by unfold fK; rw [Nat.zero_add]
    rw [ec2] at cr
    have eE : genB w y r (sB w y r f) m = enB w y r f m := rfl
    rw [eE] at dc sc tc hl
    obtain ⟨E, hE⟩ : ∃ E, E = enB w y r f m := ⟨_, rfl⟩
    rw [← hE] at dc sc tc hl ec
    have s1 := sameBits_c w y w y (bm w y f) (bm w y f) (bm_ok (f := f) (by omega) (by omega)).byte (bm_ok (f := f) (by omega) (by omega)).byte
    rw [decide_eq_true ⟨rfl, rfl, rfl⟩] at s1
    have ok2 := bm_ok (w := w) (h := hK y r k) (f := fK f r k) (by omega) (by omega)
    have s2 := sameBits_c w (hK y r k) w (hK y r k) (bm w (hK y r k) (fK f r k)) (bm w (hK y r k) (fK f r k)) ok2.byte ok2.byte
    rw [decide_eq_true ⟨rfl, rfl, rfl⟩] at s2
    have qm : quo ((y : Int) + (r : Int) - 1) (r : Int) = (m : Int) := by
      rw [quo_nn (by omega), hm]
      have : (y : Int) + (r : Int) - 1 = ((y + r - 1 : Nat) : Int) := by omega
      rw [this]; exact (Int.natCast_ediv _ _).symm
    have e1 : (k : Int) * (r : Int) = ((k * r : Nat) : Int) := by simp
    have e2 := hK_min (y := y) (r := r) (k := k) (by omega)
    have cr2 : TC R Try.prog bitmap_Crop_f [.agg [.int .i64 w, .int .i64 y, .lst Ey (bm w y f)], .int .i64 0, .int .i64 ((k : Int) * (r : Int)), .int .i64 w, .int .i64 (min (r : Int) ((y : Int) - (k : Int) * (r : Int)))] []
      (fun v X => v = .tup [.agg [.int .i64 w, .int .i64 (hK y r k), .lst Ey (bm w (hK y r k) (fK f r k))], .int .i64 0] ∧ X = []) := by rw [e2, e1]; exact cr
    have kr : k * r ≤ 1024 := by omega
    have b1 : -9223372036854775808 ≤ (k : Int) * (r : Int) ∧ (k : Int) * (r : Int) ≤ 9223372036854775807 := by rw [e1]; omega
    have b2 : -9223372036854775808 ≤ (y : Int) - (k : Int) * (r : Int) ∧ (y : Int) - (k : Int) * (r : Int) ≤ 9223372036854775807 := by rw [e1]; omega
    repeat' (first
      | ((with_reducible refine TOps.any ?_); refine TOps.callV env (by rfl) (by rfl) (by rfl) (bilevelWorks_c) ?_)
      | ((with_reducible refine TOps.any ?_); refine TOps.callV env (by rfl) (by rfl) (by rfl) (m1) ?_)
      | refine GZy_i_y hr ?_ ?_ ?_ ?_ ?_ ?_ ?_ ?_
      | with_reducible first | exact BzZq.mk | refine Tw.ret ?_ | refine ImZq.i fun h => ?_ | refine IkZq.i fun hk => ?_)
    rw [hr]
    repeat' (first
      | ((with_reducible refine TOps.any ?_); refine TOps.callE env (by rfl) (by rfl) (by rfl) ?_ (ec) (by rfl) ?_)
      | refine GZp_i_y ?_ ?_ ?_ ?_ ?_ ?_ ?_ ?_
      | with_reducible first | exact BzZq.mk | refine Tw.ret ?_ | refine ImZq.i fun h => ?_ | refine IkZq.i fun hk => ?_)
    refine TOps.frz env 1 (by rfl) (by rfl) (by rfl) ?_ ?_ ?_
    · repeat' (first
        | with_reducible first | exact Conj.nil | refine Conj.cons rfl ?_ | refine Conj.same ?_ | refine Conj.ask ?_ ?_
        | ((with_reducible refine Due.mk ?_); (first | with_reducible rfl | omega | assumption | decide | ((try simp only [goS] at *) <;> (try intro h) <;> (try intro h') <;> (try simp only [goS] at *) <;> (try simp only [rdi, rdy, Int.toNat_natCast, Nat.add_zero] at *) <;> (try simp only [rng]) <;> (first | assumption | omega)) | (exact due_app0 (by omega)) | (exact due_app (by omega)) | (intros; simp; done) | (intros; simp; omega)))
        | with_reducible refine Due.mk ?_
        | omega)
    · repeat' (first
        | with_reducible first | exact Conj.nil | refine Conj.cons rfl ?_ | refine Conj.same ?_ | refine Conj.ask ?_ ?_
        | ((with_reducible refine Due.mk ?_); (first | with_reducible rfl | omega | assumption | decide | ((try simp only [goS] at *) <;> (try intro h) <;> (try intro h') <;> (try simp only [goS] at *) <;> (try simp only [rdi, rdy, Int.toNat_natCast, Nat.add_zero] at *) <;> (try simp only [rng]) <;> (first | assumption | omega)) | (exact due_app0 (by omega)) | (exact due_app (by omega)) | (intros; simp; done) | (intros; simp; omega)))
        | with_reducible refine Due.mk ?_
        | omega)
    rw [cut_full]
    repeat' (first
      | ((with_reducible refine TOps.any ?_); refine TOps.callV env (by rfl) (by rfl) (by rfl) (dc) ?_)
      | ((with_reducible refine TOps.any ?_); refine TOps.callV env (by rfl) (by rfl) (by rfl) (sc) ?_)
      | ((with_reducible refine TOps.any ?_); refine TOps.callE env (by rfl) (by rfl) (by rfl) ?_ (s1) (by rfl) ?_)
      | refine GZy_i_y qm ?_ ?_ ?_ ?_ ?_ ?_ ?_ ?_
      | with_reducible first | exact BzZq.mk | refine Tw.ret ?_ | refine ImZq.i fun h => ?_ | refine IkZq.i fun hk => ?_)
    repeat' (first
      | ((with_reducible refine TOps.any ?_); refine TOps.callV env (by rfl) (by rfl) (by rfl) (m2) ?_)
      | ((with_reducible refine TOps.any ?_); refine TOps.callV env (by rfl) (by rfl) (by rfl) (tc) ?_)
      | ((with_reducible refine TOps.any ?_); refine TOps.callV env (by rfl) (by rfl) (by rfl) (cr2) ?_)
      | ((with_reducible refine TOps.any ?_); refine TOps.callE env (by rfl) (by rfl) (by rfl) ?_ (s2) (by rfl) ?_)
      | exact b1
      | exact b2
      | refine GZp_i_y ?_ ?_ ?_ ?_ ?_ ?_ ?_ ?_
      | with_reducible first | exact BzZq.mk | refine Tw.ret ?_ | refine ImZq.i fun h => ?_ | refine IkZq.i fun hk => ?_)
    all_goals exact ⟨rfl, rfl, rfl⟩
  · have ec := fun r => encode_n W H D r hd hc
    have cc := bCheck_c W H D hd
    by_cases hs : 64 < W ∨ 40 < H
    · repeat' (first
        | ((with_reducible refine TOps.any ?_); refine TOps.callV env (by rfl) (by rfl) (by rfl) (bilevelWorks_c) ?_)
        | refine GZp_i_y ?_ ?_ ?_ ?_ ?_ ?_ ?_ ?_
        | with_reducible first | exact BzZq.mk | refine Tw.ret ?_ | refine ImZq.i fun h => ?_ | refine IkZq.i fun hk => ?_)
      all_goals exact ⟨rfl, rfl, rfl⟩
    have ec2 := ec r
    repeat' (first
      | ((with_reducible refine TOps.any ?_); refine TOps.callV env (by rfl) (by rfl) (by rfl) (bilevelWorks_c) ?_)
      | ((with_reducible refine TOps.any ?_); refine TOps.callV env (by rfl) (by rfl) (by rfl) (m1) ?_)
      | refine GZy_i_y hr ?_ ?_ ?_ ?_ ?_ ?_ ?_ ?_
      | with_reducible first | exact BzZq.mk | refine Tw.ret ?_ | refine ImZq.i fun h => ?_ | refine IkZq.i fun hk => ?_)
    rw [hr]
    repeat' (first
      | ((with_reducible refine TOps.any ?_); refine TOps.callE env (by rfl) (by rfl) (by rfl) ?_ (ec2) (by rfl) ?_)
      | ((with_reducible refine TOps.any ?_); refine TOps.callE env (by rfl) (by rfl) (by rfl) ?_ (cc) (by rfl) ?_)
      | refine GZp_i_y ?_ ?_ ?_ ?_ ?_ ?_ ?_ ?_
      | with_reducible first | exact BzZq.mk | refine Tw.ret ?_ | refine ImZq.i fun h => ?_ | refine IkZq.i fun hk => ?_)
    all_goals exact ⟨rfl, congrArg TV.bool (by simp), rfl⟩
end Go.Proofs.Ytjedljdfkoagbaa
