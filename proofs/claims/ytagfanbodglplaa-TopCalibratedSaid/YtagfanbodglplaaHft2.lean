/- Halftone: the painter, Apply. -/
import Derived.Test.YtagfanbodglplaaHft1
import Derived.Test.YtagfanbodglplaaGo
namespace Go.Proofs.Ytagfanbodglplaa
open Go Go.Lite
set_option linter.unusedVariables false
set_option linter.unusedSimpArgs false
set_option maxRecDepth 100000
set_option maxHeartbeats 4000000
-- @simp rdi rdy

theorem TWk.reH {N : Dim} {F : TF A} {H H' : TH A} (h : embH R H' = embH R H) : TWk R N F H' F H := by unfold TWk; rw [h]; exact Wk.refl _ _

theorem painter_g {a b k P f g : Int} (h0 : schk a b k = 0) (F : Frm a b P f g) (oc : TC R Try.prog screen_Of_f [.agg [.int .i64 a, .int .i64 b, .int .i64 k]] [] (fun v X => v = .agg [.int .i64 P, .int .i64 f, .int .i64 g] ∧ X = [])) (n : Nat) (en : Due (a * a + b * b = n)) (rk : List Int) (rl : rk.length = n) (rc : TC R Try.prog screen_Ranks_f [.agg [.int .i64 a, .int .i64 b, .int .i64 k]] [] (fun v X => v = .sla 1 0 0 n ∧ X = [some (.arr Ei rk)])) (w h : Int) (pix : List Int) :
    TC R Try.prog halftone_painter_f [.pel [.int .i64 w, .int .i64 h, .lst Ey pix], .agg [.int .i64 a, .int .i64 b, .int .i64 k]] []
      (fun v X => v = .fn halftone_painter_1_f [.ptr 0 0, .ptr 2 0, .ptr 1 0, .ptr 3 0] ∧ X = [some (.cells [.pel [.int .i64 w, .int .i64 h, .lst Ey pix]]), some (.cells [.int .i64 P, .int .i64 f, .int .i64 g]), some (.cells [.lst Ei rk]), some (.arr Ei (dotT n))]) := by
  dsimp only [Due] at en
  obtain ⟨a1, a2, b1, b2, _, _, _, n1, n2⟩ := schk_ok h0
  have hn : 1 ≤ n ∧ n ≤ 400 := by omega
  obtain ⟨ds, hds⟩ : ∃ ds, ds = dotT n := ⟨_, rfl⟩
  rw [← hds]
  refine tc env halftone_painter_s (by rfl) ?_
  dsimp only [halftone_painter_c]
  repeat' (first
    | ((with_reducible refine TDr.any ?_); refine TDr.callE env (by first | rfl | assumption) (by rfl) (by rfl) ?_ (oc) (by rfl) (by rfl) ?_)
    | ((with_reducible refine TDr.any ?_); refine TDr.callN env (by first | rfl | assumption) (by rfl) (by rfl) ?_ (rc) (by rfl) (by rfl) ?_)
    | refine GZp_i_y ?_ ?_ ?_ ?_ ?_ ?_ ?_ ?_
    | with_reducible first | exact BzZq.mk | refine Tw.ret ?_ | refine ImZq.i fun h => ?_ | refine IkZq.i fun hk => ?_)
  refine Tw.frz env 2 (by rfl) (by rfl) (by rfl) ?_ ?_ ?_
  · repeat' (first
      | refine GZx_i_y rl ?_ ?_ ?_ ?_ ?_ ?_ ?_ ?_
      | with_reducible first | exact BzZq.mk | refine Tw.ret ?_ | refine ImZq.i fun h => ?_ | refine IkZq.i fun hk => ?_)
  · repeat' (first
      | refine GZ_i_y ?_ ?_ ?_ ?_ ?_ ?_ ?_ ?_
      | with_reducible first | exact BzZq.mk | refine Tw.ret ?_ | refine ImZq.i fun h => ?_ | refine IkZq.i fun hk => ?_)
  rw [cut_all rl.symm]
  refine Tw.weaken (TWk.reH (H' := [some (.cells [.pel [.int .i64 w, .int .i64 h, .lst Ey pix]]), some (.cells [.int .i64 a, .int .i64 b, .int .i64 k]), none, some (.cells [.int .i64 P, .int .i64 f, .int .i64 g]), some (.cells [.lst Ei rk]), some (.arr Ei (List.replicate 256 (0 : Int)))]) (by rfl)) ?_
  refine Tw.loopK [2, 3, 5, 6, 7] (fun v : Nat => v ≤ 256) (fun v => 256 - v) (fun v => [(13, .int .i64 v), (4, .nilf)])
    (fun v => [some (.cells [.pel [.int .i64 w, .int .i64 h, .lst Ey pix]]), some (.cells [.int .i64 a, .int .i64 b, .int .i64 k]), none, some (.cells [.int .i64 P, .int .i64 f, .int .i64 g]), some (.cells [.lst Ei rk]), some (.arr Ei (ptab 256 v fun v => dotV n v))]) ⟨0, by omega, TWk.fcanon env [some 0, some 1, some 2, some 3, some 4, some 5] (by rfl) ?_⟩ (fun v hv => ?_)
  · repeat' (first
      | exact ptab_zero
      | refine GZ_i_y ?_ ?_ ?_ ?_ ?_ ?_ ?_ ?_
      | with_reducible first | exact BzZq.mk | refine Tw.ret ?_ | refine ImZq.i fun h => ?_ | refine IkZq.i fun hk => ?_)
  have pl : (ptab 256 v fun v => dotV n v).length = 256 := ptab_len
  rcases Nat.lt_or_ge v 256 with hv | hv
  · have b1 : (v : Int) * (n : Int) ≤ 256 * 400 := Int.mul_le_mul (by omega) (by omega) (by omega) (by omega)
    have b0 : 0 ≤ (v : Int) * (n : Int) := Int.mul_nonneg (by omega) (by omega)
    have nc := nearest_c ((v : Int) * n) 255 (by unfold Due; omega)
    have ps : ptab 256 (v + 1) (fun v => dotV n v) = (ptab 256 v fun v => dotV n v).set v (near ((v : Int) * n) 255) := (ptab_set (f := fun v => dotV n v)).symm
    have e : near ((v : Int) * (rk.length : Int)) 255 = near ((v : Int) * n) 255 := by rw [rl]
    rw [← rl] at nc b1 b0
    repeat' (first
      | ((with_reducible refine TOps.any ?_); refine TOps.callV env (by rfl) (by rfl) (by rfl) (nc) ?_)
      | refine GZy_i_y pl ?_ ?_ ?_ ?_ ?_ ?_ ?_ ?_
      | with_reducible first | exact BzZq.mk | refine Tw.ret ?_ | refine ImZq.i fun h => ?_ | refine IkZq.i fun hk => ?_)
    refine ⟨v + 1, by omega, by omega, TWk.fcanon env [some 0, some 1, some 2, some 3, some 4, some 5] (by rfl) ?_⟩
    repeat' (first
      | refine GZ_i_y ?_ ?_ ?_ ?_ ?_ ?_ ?_ ?_
      | with_reducible first | exact BzZq.mk | refine Tw.ret ?_ | refine ImZq.i fun h => ?_ | refine IkZq.i fun hk => ?_)
    rw [ps, ← e]
    rfl
  · obtain rfl : v = 256 := by omega
    rw [ptab_all, show (tab 256 fun v => dotV n v) = ds from hds.symm]
    repeat' (first
      | ((with_reducible refine Tw.retI ?_); refine Tw.gc env [0, 3, 4, 5] [4] (by rfl) (by rfl) ?_ (Tw.ret ?_))
      | refine GZp_i_y ?_ ?_ ?_ ?_ ?_ ?_ ?_ ?_
      | with_reducible first | exact BzZq.mk | refine Tw.ret ?_ | refine ImZq.i fun h => ?_ | refine IkZq.i fun hk => ?_)
    exact ⟨rfl, rfl⟩

theorem apply_bad (w h a b k : Int) (pix : List Int) (hl : Due (pix.length ≤ 9223372036854775807)) (e : Int) (he : (if pchk w h pix.length ≠ 0 then pchk w h pix.length else schk a b k) = e) (hb : e ≠ 0) :
    TC R Try.prog halftone_Apply_f [.agg [.int .i64 w, .int .i64 h, .lst Ey pix], .agg [.int .i64 a, .int .i64 b, .int .i64 k]] [] (fun v X => v = .tup [.agg [.int .i64 0, .int .i64 0, .nils], .int .i64 e] ∧ X = []) := by
  have hc := hcheck_c w h a b k pix hl
  rw [he] at hc
  refine tc0 env halftone_Apply_s (by rfl) ?_
  dsimp only [halftone_Apply_c]
  repeat' (first
    | ((with_reducible refine TOps.any ?_); refine TOps.callE env (by rfl) (by rfl) (by rfl) ?_ (hc) (by rfl) ?_)
    | refine GZp_i_y ?_ ?_ ?_ ?_ ?_ ?_ ?_ ?_
    | with_reducible first | exact BzZq.mk | refine Tw.ret ?_ | refine ImZq.i fun h => ?_ | refine IkZq.i fun hk => ?_)
  exact ⟨rfl, rfl, rfl⟩

theorem apply_g {a b k P f g : Int} (h0 : schk a b k = 0) (F : Frm a b P f g) (oc : TC R Try.prog screen_Of_f [.agg [.int .i64 a, .int .i64 b, .int .i64 k]] [] (fun v X => v = .agg [.int .i64 P, .int .i64 f, .int .i64 g] ∧ X = [])) (n : Nat) (en : Due (a * a + b * b = n)) (rk : List Int) (rl : rk.length = n) (rc : TC R Try.prog screen_Ranks_f [.agg [.int .i64 a, .int .i64 b, .int .i64 k]] [] (fun v X => v = .sla 1 0 0 n ∧ X = [some (.arr Ei rk)])) (w h : Nat) (pix : List Int) (hw : Due (1 ≤ w ∧ w ≤ 1024)) (hk : Due (1 ≤ h ∧ h ≤ 1024)) (hl : Due (pix.length = w * h)) (hp : ∀ i, i < pix.length → 0 ≤ pix.getD i 0 ∧ pix.getD i 0 ≤ 255) :
    TC R Try.prog halftone_Apply_f [.agg [.int .i64 w, .int .i64 h, .lst Ey pix], .agg [.int .i64 a, .int .i64 b, .int .i64 k]] [] (fun v X => v = .tup [.agg [.int .i64 w, .int .i64 h, .lst Ey (bm w h (hdot rk P f g (dotT n) w pix))], .int .i64 0] ∧ X = []) := by
  dsimp only [Due] at en hw hk hl
  have wk : w * h ≤ 1024 * 1024 := Nat.mul_le_mul hw.2 hk.2
  have hc := hcheck_c w h a b k pix (by unfold Due; omega)
  have pz : pchk w h pix.length = 0 := by
    unfold pchk
    rw [if_neg (by omega), if_neg (by rw [hl]; simp)]
  rw [pz, h0] at hc
  have bc := blank_c w h hw hk
  rw [bm_congr (g := upto (hdot rk P f g (dotT n) w pix) 0 0) fun x y _ _ => upto_none.symm] at bc
  have pc := painter_g h0 F oc n (by unfold Due; omega) rk rl rc w h pix
  obtain ⟨a1, a2, b1, b2, _, _, _, n1, n2⟩ := schk_ok h0
  have dl : (dotT n).length = 256 := tab_len
  have pt := fun y hy => paint_c F n (by unfold Due; omega) (by unfold Due; omega) rk (dotT n) (by unfold Due; omega) (by unfold Due; omega) w h y pix (by unfold Due; omega) (by unfold Due; omega) (by unfold Due; omega) hp hy
  generalize dotT n = ds at *
  have hlb := len_bd hw hk
  have e0 : quo ((w : Int) + 7) 8 = (st w : Int) := by rw [quo_nn (by omega)]; unfold st; omega
  refine tc0 env halftone_Apply_s (by rfl) ?_
  dsimp only [halftone_Apply_c]
  have rq : rng .i64 (quo ((w : Int) + 7) 8) := by rw [e0]; simp only [rng]; unfold st; omega
  repeat' (first
    | refine GZp_i_y ?_ ?_ ?_ ?_ ?_ ?_ ?_ ?_
    | with_reducible first | exact BzZq.mk | refine Tw.ret ?_ | refine ImZq.i fun h => ?_ | refine IkZq.i fun hk => ?_)
  refine TOps.frzC env 0 (by rfl) (by rfl) (by rfl) (by rfl) ?_
  repeat' (first
    | ((with_reducible refine TOps.any ?_); refine TOps.callV env (by rfl) (by rfl) (by rfl) (hc) ?_)
    | ((with_reducible refine TOps.any ?_); refine TOps.callV env (by rfl) (by rfl) (by rfl) (bc) ?_)
    | ((with_reducible refine TDr.any ?_); refine TDr.callHF env [] (pc) (by first | rfl | assumption) (by rfl) (by rfl) (by rfl) (by rfl) (by rfl) (fun _ => by rfl) (fun _ => by repeat' (first | exact trivial | refine ⟨rfl, ?_⟩)) (by rfl) (by rfl) (by rfl) ?_)
    | exact rq
    | refine GZp_i_y ?_ ?_ ?_ ?_ ?_ ?_ ?_ ?_
    | with_reducible first | exact BzZq.mk | refine Tw.ret ?_ | refine ImZq.i fun h => ?_ | refine IkZq.i fun hk => ?_)
  rw [e0]
  refine Tw.loopK [2, 3, 4, 5, 7, 8, 9, 29] (fun y : Nat => y ≤ h) (fun y => h - y) (fun y => [(30, .int .i64 y)])
    (fun y => [none, some (.cells [.int .i64 a, .int .i64 b, .int .i64 k]), some (.cells [.int .i64 0, .int .i64 0, .nils]), some (.arr Ey (bm w h (upto (hdot rk P f g ds w pix) 0 y))), some (.cells [.int .i64 w, .int .i64 h, .sla 1 3 0 (st w * h)]), some (.cells [.pel [.int .i64 w, .int .i64 h, .lst Ey pix]]), some (.cells [.int .i64 P, .int .i64 f, .int .i64 g]), some (.cells [.lst Ei rk]), some (.arr Ei ds)]) ⟨0, by omega, TWk.fcanon env [some 0, some 1, some 2, some 3, some 4, some 5, some 6, some 7, some 8] (by rfl) ?_⟩ (fun y hy => ?_)
  · repeat' (first
      | refine GZ_i_y ?_ ?_ ?_ ?_ ?_ ?_ ?_ ?_
      | with_reducible first | exact BzZq.mk | refine Tw.ret ?_ | refine ImZq.i fun h => ?_ | refine IkZq.i fun hk => ?_)
  rcases Nat.lt_or_ge y h with hy | hy
  · have p1 := pt y (by unfold Due; omega)
    have c1 : (y : Int) * (st w : Int) = ((y * st w : Nat) : Int) := by simp
    have c2 : ((y : Int) + 1) * (st w : Int) = ((y * st w + st w : Nat) : Int) := by rw [Int.add_mul]; simp
    have y1 : y * st w + st w ≤ st w * h := by
      have := Nat.mul_le_mul_left (st w) (show y + 1 ≤ h by omega)
      rw [Nat.mul_add, Nat.mul_comm (st w) y] at this; omega
    repeat' (first
      | refine GZy_i_y (And.intro c1 c2) ?_ ?_ ?_ ?_ ?_ ?_ ?_ ?_
      | with_reducible first | exact BzZq.mk | refine Tw.ret ?_ | refine ImZq.i fun h => ?_ | refine IkZq.i fun hk => ?_)
    rw [c1, c2]
    simp only [Int.toNat_natCast, Nat.add_sub_cancel_left, Nat.zero_add]
    repeat' (first
      | ((with_reducible refine TOps.any ?_); refine TOps.callHE env [5, 6, 7, 8, 3] (p1) (by rfl) (by rfl) (by rfl) (by rfl) (by rfl) (by rfl) (by repeat' (first | exact trivial | refine ⟨rfl, ?_⟩)) ?_)
      | refine GZp_i_y ?_ ?_ ?_ ?_ ?_ ?_ ?_ ?_
      | with_reducible first | exact BzZq.mk | refine Tw.ret ?_ | refine ImZq.i fun h => ?_ | refine IkZq.i fun hk => ?_)
    refine ⟨y + 1, by omega, by omega, TWk.fcanon env [some 0, some 1, some 2, some 3, some 4, some 5, some 6, some 7, some 8] (by rfl) ?_⟩
    repeat' (first
      | refine GZ_i_y ?_ ?_ ?_ ?_ ?_ ?_ ?_ ?_
      | with_reducible first | exact BzZq.mk | refine Tw.ret ?_ | refine ImZq.i fun h => ?_ | refine IkZq.i fun hk => ?_)
  · obtain rfl : h = y := by omega
    have e : bm w h (upto (hdot rk P f g ds w pix) 0 h) = bm w h (hdot rk P f g ds w pix) := bm_congr fun i j _ hj => upto_all hj
    rw [e]
    have bl := bm_len (w := w) (h := h) (f := hdot rk P f g ds w pix)
    generalize bm w h (hdot rk P f g ds w pix) = D at *
    repeat' (first
      | ((with_reducible refine Tw.retI ?_); refine Tw.frz env 3 (by rfl) (by rfl) (by rfl) ?_ ?_ (Tw.ret ?_))
      | refine GZy_i_y bl ?_ ?_ ?_ ?_ ?_ ?_ ?_ ?_
      | with_reducible first | exact BzZq.mk | refine Tw.ret ?_ | refine ImZq.i fun h => ?_ | refine IkZq.i fun hk => ?_)
    rw [cut_all bl.symm]
    exact ⟨rfl, rfl, rfl⟩

theorem apply_c {a b k P f g : Int} (h0 : schk a b k = 0) (F : Frm a b P f g) (oc : TC R Try.prog screen_Of_f [.agg [.int .i64 a, .int .i64 b, .int .i64 k]] [] (fun v X => v = .agg [.int .i64 P, .int .i64 f, .int .i64 g] ∧ X = [])) (n : Nat) (en : Due (a * a + b * b = n)) (w h : Nat) (pix : List Int) (hw : Due (1 ≤ w ∧ w ≤ 1024)) (hk : Due (1 ≤ h ∧ h ≤ 1024)) (hl : Due (pix.length = w * h)) (hp : ∀ i, i < pix.length → 0 ≤ pix.getD i 0 ∧ pix.getD i 0 ≤ 255) :
    TC R Try.prog halftone_Apply_f [.agg [.int .i64 w, .int .i64 h, .lst Ey pix], .agg [.int .i64 a, .int .i64 b, .int .i64 k]] [] (fun v X => v = .tup [.agg [.int .i64 w, .int .i64 h, .lst Ey (bm w h (hdot (rks a b k P f g n) P f g (dotT n) w pix))], .int .i64 0] ∧ X = []) :=
  apply_g h0 F oc n en (rks a b k P f g n) tab_len (ranks_r h0 F oc n en) w h pix hw hk hl hp
end Go.Proofs.Ytagfanbodglplaa
