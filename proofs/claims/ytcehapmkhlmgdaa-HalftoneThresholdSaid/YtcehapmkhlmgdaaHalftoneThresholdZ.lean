/- The law HalftoneThreshold: a screen with a single place prints the tones from 128 on. -/
import Derived.Test.YtcehapmkhlmgdaaHft3
import Derived.Test.YtcehapmkhlmgdaaRMod
import Derived.Test.YtcehapmkhlmgdaaXHalftoneThreshold0
import Derived.Test.YtcehapmkhlmgdaaGo
namespace Go.Proofs.Ytcehapmkhlmgdaa
open Go Go.Lite
set_option linter.unusedVariables false
set_option linter.unusedSimpArgs false
set_option maxRecDepth 100000
set_option maxHeartbeats 4000000
-- @simp rdi rdy

theorem one_frm {a b P f g : Int} (F : Frm a b P f g) (h : a * a + b * b = 1) : P = 1 ∧ g = 1 ∧ f = 0 := by
  have ha := F.area
  have hP := F.pb
  have hg := F.gb
  have hf := F.fb
  have : P = 1 := by
    rcases Int.lt_or_le 1 P with hc | hc
    · have := Int.mul_le_mul (show 1 ≤ g by omega) (show 2 ≤ P by omega) (by omega) (by omega); omega
    · omega
  subst this
  omega
theorem HalftoneThreshold_law (w h : Int) (pix : List Int) (kd : Int) (ac : Bool) (_ : rng .i64 w) (_ : rng .i64 h) (wp : pix.length ≤ 9223372036854775807 ∧ ∀ y ∈ pix, Wy y) (rk : rng .i64 kd) (_ : True) :
    TC R Try.prog K2_HalftoneThreshold_f [.agg [.int .i64 w, .int .i64 h, .lst Ey pix], .int .i64 kd, .bool ac] [] (fun v X => v = .bool true ∧ X = []) := by
  simp only [rng] at rk
  have mk := rMod_c kd 4 (by unfold Due; omega)
  have k1 := Int.emod_nonneg kd (show (4 : Int) ≠ 0 by omega)
  have k2 := Int.emod_lt_of_pos kd (show (0 : Int) < 4 by omega)
  generalize kd % 4 = k at *
  have hb : ∀ i, i < pix.length → 0 ≤ pix.getD i 0 ∧ pix.getD i 0 ≤ 255 := fun i hi => by
    have := wp.2 _ (getD_mem (d := (0 : Int)) hi)
    simpa [Wy, rng] using this
  have key : ∀ a b : Int, (a = 1 ∧ b = 0 ∨ a = 0 ∧ b = 1) → ∀ hh : pchk w h pix.length = 0, ∃ w' h' : Nat, w = w' ∧ h = h' ∧ (1 ≤ w' ∧ w' ≤ 1024) ∧ (1 ≤ h' ∧ h' ≤ 1024) ∧ pix.length = w' * h' ∧
      TC R Try.prog halftone_Apply_f [.agg [.int .i64 w', .int .i64 h', .lst Ey pix], .agg [.int .i64 a, .int .i64 b, .int .i64 k]] [] (fun v X => v = .tup [.agg [.int .i64 w', .int .i64 h', .lst Ey (bm w' h' fun x y => decide (128 ≤ pix.getD (y * w' + x) 0))], .int .i64 0] ∧ X = []) := fun a b hab hh => by
    obtain ⟨w', h', e1, e2, e3, e4, e5⟩ := pchk_ok hh
    refine ⟨w', h', e1, e2, e3, e4, e5, ?_⟩
    have sq : a * a + b * b = 1 := by rcases hab with ⟨rfl, rfl⟩ | ⟨rfl, rfl⟩ <;> rfl
    have s0 : schk a b k = 0 := by
      unfold schk
      rw [if_neg (by omega), if_neg (by omega), if_neg (by omega)]
    obtain ⟨P, f, g, oc, F⟩ := of_ex a b k s0
    obtain ⟨rfl, rfl, rfl⟩ := one_frm F sq
    have ap := apply_c s0 F oc 1 (by unfold Due; omega) w' h' pix e3 e4 e5 hb
    have ev : bm w' h' (hdot (rks a b k 1 0 1 1) 1 0 1 (dotT 1) w' pix) = bm w' h' fun x y => decide (128 ≤ pix.getD (y * w' + x) 0) := bm_congr fun x y hx hy => by
      have hi : y * w' + x < pix.length := by
        rw [e5]
        have := Nat.mul_le_mul_left w' (show y + 1 ≤ h' by omega)
        rw [Nat.mul_add, Nat.mul_comm w' y] at this; omega
      have hv := hb _ hi
      unfold hdot
      rw [dot_get hv]
      have p0 : plc 1 0 1 x y = 0 := by unfold plc; omega
      have r0 : (rks a b k 1 0 1 1).getD 0 0 = 0 := by
        have := rkK_lt (k := k) ⟨by omega, by omega⟩ F (n := 1) (by omega) (p := 0) (by omega)
        unfold rks
        rw [tab_get (by omega)]; omega
      rw [p0, show (0 : Int).toNat = 0 from rfl, r0]
      unfold dotV near
      exact decide_eq_decide.2 (by omega)
    rw [ev] at ap
    exact ap
  have bad : ∀ a b : Int, (a = 1 ∧ b = 0 ∨ a = 0 ∧ b = 1) → pchk w h pix.length ≠ 0 → TC R Try.prog halftone_Apply_f [.agg [.int .i64 w, .int .i64 h, .lst Ey pix], .agg [.int .i64 a, .int .i64 b, .int .i64 k]] [] (fun v X => v = .tup [.agg [.int .i64 0, .int .i64 0, .nils], .int .i64 (pchk w h pix.length)] ∧ X = []) := fun a b hab hh =>
    apply_bad w h a b k pix wp.1 _ (if_pos hh) hh
  refine tc0 env K2_HalftoneThreshold_s (by rfl) ?_
  dsimp only [K2_HalftoneThreshold_c]
  by_cases hh : pchk w h pix.length = 0
  · cases ac with
    | true =>
      obtain ⟨w', h', rfl, rfl, e3, e4, e5, ap⟩ := key 0 1 (.inr ⟨rfl, rfl⟩) hh
      have fp := fromPlate_c w' h' pix 128 e3 e4 e5 hb (by unfold Due; omega)
      have sb := sameBits_c w' h' w' h' _ _ (bmBy w' h' fun x y => decide (128 ≤ pix.getD (y * w' + x) 0)) (bmBy w' h' fun x y => decide (128 ≤ pix.getD (y * w' + x) 0))
      generalize bm w' h' (fun x y => decide (128 ≤ pix.getD (y * w' + x) 0)) = D at *
      repeat' (first
        | ((with_reducible refine TOps.any ?_); refine TOps.callV env (by rfl) (by rfl) (by rfl) (htWorks_c) ?_)
        | ((with_reducible refine TOps.any ?_); refine TOps.callV env (by rfl) (by rfl) (by rfl) (mk) ?_)
        | ((with_reducible refine TOps.any ?_); refine TOps.callV env (by rfl) (by rfl) (by rfl) (ap) ?_)
        | ((with_reducible refine TOps.any ?_); refine TOps.callV env (by rfl) (by rfl) (by rfl) (fp) ?_)
        | ((with_reducible refine TOps.any ?_); refine TOps.callV env (by rfl) (by rfl) (by rfl) (sb) ?_)
        | refine GZp_i_y ?_ ?_ ?_ ?_ ?_ ?_ ?_ ?_
        | with_reducible first | exact BzZq.mk | refine Tw.ret ?_ | refine ImZq.i fun h => ?_ | refine IkZq.i fun hk => ?_)
      all_goals exact ⟨rfl, congrArg TV.bool (by simp), rfl⟩
    | false =>
      obtain ⟨w', h', rfl, rfl, e3, e4, e5, ap⟩ := key 1 0 (.inl ⟨rfl, rfl⟩) hh
      have fp := fromPlate_c w' h' pix 128 e3 e4 e5 hb (by unfold Due; omega)
      have sb := sameBits_c w' h' w' h' _ _ (bmBy w' h' fun x y => decide (128 ≤ pix.getD (y * w' + x) 0)) (bmBy w' h' fun x y => decide (128 ≤ pix.getD (y * w' + x) 0))
      generalize bm w' h' (fun x y => decide (128 ≤ pix.getD (y * w' + x) 0)) = D at *
      repeat' (first
        | ((with_reducible refine TOps.any ?_); refine TOps.callV env (by rfl) (by rfl) (by rfl) (htWorks_c) ?_)
        | ((with_reducible refine TOps.any ?_); refine TOps.callV env (by rfl) (by rfl) (by rfl) (mk) ?_)
        | ((with_reducible refine TOps.any ?_); refine TOps.callV env (by rfl) (by rfl) (by rfl) (ap) ?_)
        | ((with_reducible refine TOps.any ?_); refine TOps.callV env (by rfl) (by rfl) (by rfl) (fp) ?_)
        | ((with_reducible refine TOps.any ?_); refine TOps.callV env (by rfl) (by rfl) (by rfl) (sb) ?_)
        | refine GZp_i_y ?_ ?_ ?_ ?_ ?_ ?_ ?_ ?_
        | with_reducible first | exact BzZq.mk | refine Tw.ret ?_ | refine ImZq.i fun h => ?_ | refine IkZq.i fun hk => ?_)
      all_goals exact ⟨rfl, congrArg TV.bool (by simp), rfl⟩
  · have fp := fromPlate_n w h pix 128 wp.1 hh
    cases ac with
    | true =>
      have ap := bad 0 1 (.inr ⟨rfl, rfl⟩) hh
      generalize pchk w h pix.length = e at *
      repeat' (first
        | ((with_reducible refine TOps.any ?_); refine TOps.callV env (by rfl) (by rfl) (by rfl) (htWorks_c) ?_)
        | ((with_reducible refine TOps.any ?_); refine TOps.callV env (by rfl) (by rfl) (by rfl) (mk) ?_)
        | ((with_reducible refine TOps.any ?_); refine TOps.callV env (by rfl) (by rfl) (by rfl) (ap) ?_)
        | ((with_reducible refine TOps.any ?_); refine TOps.callV env (by rfl) (by rfl) (by rfl) (fp) ?_)
        | ((with_reducible refine TOps.any ?_); refine TOps.callV env (by rfl) (by rfl) (by rfl) (sameNone_c) ?_)
        | refine GZp_i_y ?_ ?_ ?_ ?_ ?_ ?_ ?_ ?_
        | with_reducible first | exact BzZq.mk | refine Tw.ret ?_ | refine ImZq.i fun h => ?_ | refine IkZq.i fun hk => ?_)
      all_goals exact ⟨rfl, congrArg TV.bool (by simp), rfl⟩
    | false =>
      have ap := bad 1 0 (.inl ⟨rfl, rfl⟩) hh
      generalize pchk w h pix.length = e at *
      repeat' (first
        | ((with_reducible refine TOps.any ?_); refine TOps.callV env (by rfl) (by rfl) (by rfl) (htWorks_c) ?_)
        | ((with_reducible refine TOps.any ?_); refine TOps.callV env (by rfl) (by rfl) (by rfl) (mk) ?_)
        | ((with_reducible refine TOps.any ?_); refine TOps.callV env (by rfl) (by rfl) (by rfl) (ap) ?_)
        | ((with_reducible refine TOps.any ?_); refine TOps.callV env (by rfl) (by rfl) (by rfl) (fp) ?_)
        | ((with_reducible refine TOps.any ?_); refine TOps.callV env (by rfl) (by rfl) (by rfl) (sameNone_c) ?_)
        | refine GZp_i_y ?_ ?_ ?_ ?_ ?_ ?_ ?_ ?_
        | with_reducible first | exact BzZq.mk | refine Tw.ret ?_ | refine ImZq.i fun h => ?_ | refine IkZq.i fun hk => ?_)
      all_goals exact ⟨rfl, congrArg TV.bool (by simp), rfl⟩
end Go.Proofs.Ytcehapmkhlmgdaa
