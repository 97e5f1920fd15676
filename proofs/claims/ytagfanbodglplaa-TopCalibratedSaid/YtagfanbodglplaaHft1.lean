/- Halftone: plates are checked; the numbers of dots; a row is painted. -/
import Derived.Test.YtagfanbodglplaaScr7
import Derived.Test.YtagfanbodglplaaSheet3
import Derived.Test.YtagfanbodglplaaNear
import Derived.Test.YtagfanbodglplaaXTopCalibrated0
import Derived.Test.YtagfanbodglplaaGo
namespace Go.Proofs.Ytagfanbodglplaa
open Go Go.Lite
set_option linter.unusedVariables false
set_option linter.unusedSimpArgs false
set_option maxRecDepth 100000
set_option maxHeartbeats 4000000
-- @simp rdi rdy

/-- What is said of a plate. -/
def pchk (w h : Int) (n : Nat) : Int := if w < 1 ∨ 1024 < w ∨ h < 1 ∨ 1024 < h then 3 else if (n : Int) ≠ w * h then 4 else 0
theorem plate_c (w h : Int) (p : List Int) (hl : Due (p.length ≤ 9223372036854775807)) : TC R Try.prog devicelink_CheckPlate_f [.agg [.int .i64 w, .int .i64 h, .lst Ey p]] [] (fun v X => v = .int .i64 (pchk w h p.length) ∧ X = []) := by
  refine tc0 env devicelink_CheckPlate_s (by rfl) ?_
  dsimp only [devicelink_CheckPlate_c]
  by_cases h1 : w < 1 ∨ 1024 < w ∨ h < 1 ∨ 1024 < h
  · have e : pchk w h p.length = 3 := if_pos h1
    rw [e]
    repeat' (first
      | refine GZp_i_y ?_ ?_ ?_ ?_ ?_ ?_ ?_ ?_
      | with_reducible first | exact BzZq.mk | refine Tw.ret ?_ | refine ImZq.i fun h => ?_ | refine IkZq.i fun hk => ?_)
    all_goals exact ⟨rfl, rfl, rfl⟩
  · have e : pchk w h p.length = if (p.length : Int) ≠ w * h then 4 else 0 := if_neg h1
    rw [e]
    have m := Int.mul_le_mul (show w ≤ 1024 by omega) (show h ≤ 1024 by omega) (by omega) (by omega)
    have m0 := Int.mul_nonneg (show 0 ≤ w by omega) (show 0 ≤ h by omega)
    repeat' (first
      | refine GZp_i_y ?_ ?_ ?_ ?_ ?_ ?_ ?_ ?_
      | with_reducible first | exact BzZq.mk | refine Tw.ret ?_ | refine ImZq.i fun h => ?_ | refine IkZq.i fun hk => ?_)
    · rw [if_pos (by omega)]; exact ⟨rfl, rfl, rfl⟩
    · rw [if_neg (by omega)]; exact ⟨rfl, rfl, rfl⟩
theorem hcheck_c (w h a b k : Int) (p : List Int) (hl : Due (p.length ≤ 9223372036854775807)) : TC R Try.prog halftone_check_f [.pel [.int .i64 w, .int .i64 h, .lst Ey p], .agg [.int .i64 a, .int .i64 b, .int .i64 k]] [] (fun v X => v = .int .i64 (if pchk w h p.length ≠ 0 then pchk w h p.length else schk a b k) ∧ X = []) := by
  have pc := plate_c w h p hl
  have sc := scheck_c a b k
  refine tc0 env halftone_check_s (by rfl) ?_
  dsimp only [halftone_check_c]
  generalize pchk w h p.length = e at *
  generalize schk a b k = e' at *
  repeat' (first
    | ((with_reducible refine TOps.any ?_); refine TOps.callV env (by rfl) (by rfl) (by rfl) (pc) ?_)
    | ((with_reducible refine TOps.any ?_); refine TOps.callV env (by rfl) (by rfl) (by rfl) (sc) ?_)
    | refine GZp_i_y ?_ ?_ ?_ ?_ ?_ ?_ ?_ ?_
    | with_reducible first | exact BzZq.mk | refine Tw.ret ?_ | refine ImZq.i fun h => ?_ | refine IkZq.i fun hk => ?_)
  · rw [if_pos h]; exact ⟨rfl, rfl, rfl⟩
  · rw [if_neg (by omega)]; exact ⟨rfl, rfl, rfl⟩

/-- The number of dots of a tone. -/
def dotV (n : Nat) (v : Int) : Int := near (v * n) 255
def dotT (n : Nat) : List Int := tab 256 fun v => dotV n v
/-- Is a dot printed? -/
def hdot (rk : List Int) (P f g : Int) (ds : List Int) (w : Nat) (pix : List Int) (x y : Nat) : Bool := decide (rk.getD (plc P f g x y).toNat 0 < ds.getD (pix.getD (y * w + x) 0).toNat 0)

theorem paint_c {a b P f g : Int} (F : Frm a b P f g) (n : Nat) (en : Due (a * a + b * b = n)) (hn : Due (1 ≤ n ∧ n ≤ 400)) (rk ds : List Int) (hr : Due (rk.length = n)) (dl : Due (ds.length = 256)) (w k y : Nat) (pix : List Int) (hw : Due (1 ≤ w ∧ w ≤ 1024)) (hk : Due (1 ≤ k ∧ k ≤ 1024)) (hl : Due (pix.length = w * k)) (hp : ∀ i, i < pix.length → 0 ≤ pix.getD i 0 ∧ pix.getD i 0 ≤ 255) (hy : Due (y < k)) :
    TC R Try.prog halftone_painter_1_f [.int .i64 y, .sla 1 4 (y * st w) (st w), .ptr 0 0, .ptr 2 0, .ptr 1 0, .ptr 3 0]
      [some (.cells [.pel [.int .i64 w, .int .i64 k, .lst Ey pix]]), some (.cells [.int .i64 P, .int .i64 f, .int .i64 g]), some (.cells [.lst Ei rk]), some (.arr Ei (ds)), some (.arr Ey (bm w k (upto (hdot rk P f g ds w pix) 0 y)))]
      (fun v X => v = .tup [] ∧ X = [some (.cells [.pel [.int .i64 w, .int .i64 k, .lst Ey pix]]), some (.cells [.int .i64 P, .int .i64 f, .int .i64 g]), some (.cells [.lst Ei rk]), some (.arr Ei (ds)), some (.arr Ey (bm w k (upto (hdot rk P f g ds w pix) 0 (y + 1))))]) := by
  dsimp only [Due] at en hn hr dl hw hk hl hy
  have hP := F.pb
  have hg := F.gb
  have har := F.area
  have wk : w * k ≤ 1024 * 1024 := Nat.mul_le_mul hw.2 hk.2
  have y1 : y * w + w ≤ w * k := by
    have := Nat.mul_le_mul_left w (show y + 1 ≤ k by omega)
    rw [Nat.mul_add, Nat.mul_comm w y] at this; omega
  have c1 : (y : Int) * (w : Int) = ((y * w : Nat) : Int) := by simp
  have c2 : ((y : Int) + 1) * (w : Int) = ((y * w + w : Nat) : Int) := by rw [Int.add_mul]; simp
  refine tc env halftone_painter_1_s (by rfl) ?_
  dsimp only [halftone_painter_1_c]
  repeat' (first
    | refine GZy_i_y (And.intro c1 (And.intro c2 hl)) ?_ ?_ ?_ ?_ ?_ ?_ ?_ ?_
    | with_reducible first | exact BzZq.mk | refine Tw.ret ?_ | refine ImZq.i fun h => ?_ | refine IkZq.i fun hk => ?_)
  rw [c1, c2]
  simp only [Int.toNat_natCast, Nat.add_sub_cancel_left]
  obtain ⟨L, hL⟩ : ∃ L, L = List.take w (List.drop (y * w) pix) := ⟨_, rfl⟩
  have ll : L.length = w := by rw [hL, List.length_take, List.length_drop]; omega
  have lg : ∀ x, x < w → L.getD x 0 = pix.getD (y * w + x) 0 := fun x hx => by
    rw [hL, List.getD_eq_getElem?_getD, List.getD_eq_getElem?_getD, List.getElem?_take, if_pos hx, List.getElem?_drop]
  rw [← hL]
  have hlb := len_bd hw hk
  refine Tw.loopK [0, 2, 3, 4, 5, 27] (fun x : Nat => x ≤ w) (fun x => w - x) (fun x => [(29, .int .i64 x), (28, .int .i64 w), (1, .sla 1 4 (y * st w) (st w))])
    (fun x => [some (.cells [.pel [.int .i64 w, .int .i64 k, .lst Ey pix]]), some (.cells [.int .i64 P, .int .i64 f, .int .i64 g]), some (.cells [.lst Ei rk]), some (.arr Ei (ds)), some (.arr Ey (bm w k (upto (hdot rk P f g ds w pix) x y)))]) ⟨0, by omega, TWk.fcanon env [some 0, some 1, some 2, some 3, some 4] (by rfl) ?_⟩ (fun x hx => ?_)
  · repeat' (first
      | refine GZx_i_y ll ?_ ?_ ?_ ?_ ?_ ?_ ?_ ?_
      | with_reducible first | exact BzZq.mk | refine Tw.ret ?_ | refine ImZq.i fun h => ?_ | refine IkZq.i fun hk => ?_)
  rcases Nat.lt_or_ge x w with hx | hx
  · have gx := lg x hx
    have pb := hp (y * w + x) (by omega)
    obtain ⟨t, ht⟩ : ∃ t : Nat, pix.getD (y * w + x) 0 = t := ⟨(pix.getD (y * w + x) 0).toNat, by omega⟩
    rw [ht] at gx pb
    have pc := place_c F x y (by unfold Due; omega)
    have z1 := Int.emod_nonneg (y : Int) (show g ≠ 0 by omega)
    have z2 := Int.emod_lt_of_pos (y : Int) (show 0 < g by omega)
    have pb2 : 0 ≤ plc P f g x y ∧ plc P f g x y < n := by
      unfold plc
      have z3 := Int.emod_nonneg ((x : Int) - (y : Int) / g % P * f) (show P ≠ 0 by omega)
      have z4 := Int.emod_lt_of_pos ((x : Int) - (y : Int) / g % P * f) (show 0 < P by omega)
      have z5 := Int.mul_le_mul_of_nonneg_right (show (y : Int) % g ≤ g - 1 by omega) (show 0 ≤ P by omega)
      have z6 := Int.mul_nonneg z1 (show 0 ≤ P by omega)
      rw [Int.sub_mul] at z5
      omega
    have hd : hdot rk P f g ds w pix x y = decide (rk.getD (plc P f g x y).toNat 0 < (ds).getD t 0) := by unfold hdot; rw [ht]; rfl
    have hl8 := at8_lt hx hy
    have q1 : quo (x : Int) 8 = ((x / 8 : Nat) : Int) := by rw [quo_nn (by omega)]; omega
    have q2 : rem (x : Int) 8 = ((x % 8 : Nat) : Int) := by rw [rem_nn (by omega)]; omega
    have q3 : x / 8 + y * st w = at8 w x y := Nat.add_comm _ _
    have q5 : (0 : Int) ≤ (128 : Int) / 2 ^ (x % 8) ∧ (128 : Int) / 2 ^ (x % 8) ≤ 255 := by
      rw [sh_pow (by omega)]
      have h7 : (2 : Nat) ^ (7 - x % 8) ≤ 2 ^ 7 := Nat.pow_le_pow_right (by omega) (by omega)
      generalize (2 : Nat) ^ (7 - x % 8) = m at *
      omega
    have q6 : x / 8 < st w := by unfold st; omega
    have hmark := bm_mark (f := upto (hdot rk P f g ds w pix) x y) hx hy
    have hbd := bm_bd (w := w) (h := k) (f := upto (hdot rk P f g ds w pix) x y) hl8
    have hbl := bm_len (w := w) (h := k) (f := upto (hdot rk P f g ds w pix) x y)
    have yes := fun h => bm_congr (w := w) (h := k) fun i j _ _ => upto_yes (g := hdot rk P f g ds w pix) (x := x) (y := y) h i j
    have no := fun h => bm_congr (w := w) (h := k) fun i j _ _ => upto_no (g := hdot rk P f g ds w pix) (x := x) (y := y) h i j
    rw [hd] at yes no
    rw [← hmark] at yes
    obtain ⟨D', hD'⟩ : ∃ D', D' = bm w k (upto (hdot rk P f g ds w pix) (x + 1) y) := ⟨_, rfl⟩
    rw [← hD'] at yes no
    clear hd hmark
    generalize bm w k (upto (hdot rk P f g ds w pix) x y) = D at *
    generalize plc P f g x y = q at *
    repeat' (first
      | ((with_reducible refine TDr.any ?_); refine TDr.callE env (by first | rfl | assumption) (by rfl) (by rfl) ?_ (pc) (by rfl) (by rfl) ?_)
      | refine GZy_i_y (And.intro ll (And.intro gx (And.intro dl (And.intro hr (And.intro q1 (And.intro q2 (And.intro q3 hbl))))))) ?_ ?_ ?_ ?_ ?_ ?_ ?_ ?_
      | with_reducible first | exact BzZq.mk | refine Tw.ret ?_ | refine ImZq.i fun h => ?_ | refine IkZq.i fun hk => ?_)
    · have e := yes (decide_eq_true h)
      refine ⟨x + 1, by omega, by omega, ?_⟩
      rw [← hD']
      refine TWk.fcanon env [some 0, some 1, some 2, some 3, some 4] (by rfl) ?_
      repeat' (first
        | refine GZ_i_y ?_ ?_ ?_ ?_ ?_ ?_ ?_ ?_
        | with_reducible first | exact BzZq.mk | refine Tw.ret ?_ | refine ImZq.i fun h => ?_ | refine IkZq.i fun hk => ?_)
      rw [← e, ← q3]
      show _ = D.set ((quo (x : Int) 8).toNat + y * st w) (bor (D.getD ((quo (x : Int) 8).toNat + y * st w) 0) (128 / 2 ^ (rem (x : Int) 8).toNat))
      rw [q1, q2, Int.toNat_natCast, Int.toNat_natCast]
    · have e := no (decide_eq_false (by omega))
      refine ⟨x + 1, by omega, by omega, ?_⟩
      rw [← hD', ← e]
      refine TWk.fcanon env [some 0, some 1, some 2, some 3, some 4] (by rfl) ?_
      repeat' (first
        | refine GZ_i_y ?_ ?_ ?_ ?_ ?_ ?_ ?_ ?_
        | with_reducible first | exact BzZq.mk | refine Tw.ret ?_ | refine ImZq.i fun h => ?_ | refine IkZq.i fun hk => ?_)
  · obtain rfl : w = x := by omega
    have e : bm w k (upto (hdot rk P f g ds w pix) w y) = bm w k (upto (hdot rk P f g ds w pix) 0 (y + 1)) := bm_congr fun i j hi _ => upto_row hi
    rw [e]
    repeat' (first
      | refine GZp_i_y ?_ ?_ ?_ ?_ ?_ ?_ ?_ ?_
      | with_reducible first | exact BzZq.mk | refine Tw.ret ?_ | refine ImZq.i fun h => ?_ | refine IkZq.i fun hk => ?_)
    exact ⟨rfl, rfl⟩
end Go.Proofs.Ytagfanbodglplaa
