/- The law HalftoneTone: in a square with the side of the period, a plate of one tone has as many dots as Dots says. -/
import Derived.Test.YtcehapmkhlmgdaaHft3
import Derived.Test.YtcehapmkhlmgdaaScr8
import Derived.Test.YtcehapmkhlmgdaaCrop
import Derived.Test.YtcehapmkhlmgdaaPop
import Derived.Test.YtcehapmkhlmgdaaXHalftoneTone0
import Derived.Test.YtcehapmkhlmgdaaGo
namespace Go.Proofs.Ytcehapmkhlmgdaa
open Go Go.Lite
set_option linter.unusedVariables false
set_option linter.unusedSimpArgs false
set_option maxRecDepth 100000
set_option maxHeartbeats 4000000
-- @simp rdi rdy

theorem dots_c {a b k : Int} (h0 : schk a b k = 0) (t : Int) (ht : Due (0 ≤ t ∧ t ≤ 255)) (n : Nat) (en : Due (a * a + b * b = n)) : TC R Try.prog screen_Dots_f [.agg [.int .i64 a, .int .i64 b, .int .i64 k], .int .i64 t] [] (fun v X => v = .tup [.int .i64 (dotV n t), .int .i64 0] ∧ X = []) := by
  dsimp only [Due] at ht en
  obtain ⟨a1, a2, b1, b2, _, _, _, n1, n2⟩ := schk_ok h0
  have q1 := sq_bd ⟨a1, a2⟩
  have q2 := sq_bd ⟨b1, b2⟩
  have cc := scheck_c a b k
  rw [h0] at cc
  have b1' : t * (a * a + b * b) ≤ 255 * 400 := Int.mul_le_mul (by omega) (by omega) (by omega) (by omega)
  have b0' : 0 ≤ t * (a * a + b * b) := Int.mul_nonneg (by omega) (by omega)
  have nc := nearest_c (t * (a * a + b * b)) 255 (by unfold Due; omega)
  have e : near (t * (a * a + b * b)) 255 = dotV n t := by rw [en]; rfl
  rw [e] at nc
  refine tc0 env screen_Dots_s (by rfl) ?_
  dsimp only [screen_Dots_c]
  repeat' (first
    | ((with_reducible refine TOps.any ?_); refine TOps.callV env (by rfl) (by rfl) (by rfl) (cc) ?_)
    | ((with_reducible refine TOps.any ?_); refine TOps.callV env (by rfl) (by rfl) (by rfl) (nc) ?_)
    | refine GZp_i_y ?_ ?_ ?_ ?_ ?_ ?_ ?_ ?_
    | with_reducible first | exact BzZq.mk | refine Tw.ret ?_ | refine ImZq.i fun h => ?_ | refine IkZq.i fun hk => ?_)
  exact ⟨rfl, rfl, rfl⟩
theorem dots_bad {a b k : Int} (h0 : schk a b k ≠ 0) (t : Int) : TC R Try.prog screen_Dots_f [.agg [.int .i64 a, .int .i64 b, .int .i64 k], .int .i64 t] [] (fun v X => v = .tup [.int .i64 0, .int .i64 (schk a b k)] ∧ X = []) := by
  have cc := scheck_c a b k
  refine tc0 env screen_Dots_s (by rfl) ?_
  dsimp only [screen_Dots_c]
  repeat' (first
    | ((with_reducible refine TOps.any ?_); refine TOps.callV env (by rfl) (by rfl) (by rfl) (cc) ?_)
    | refine GZp_i_y ?_ ?_ ?_ ?_ ?_ ?_ ?_ ?_
    | with_reducible first | exact BzZq.mk | refine Tw.ret ?_ | refine ImZq.i fun h => ?_ | refine IkZq.i fun hk => ?_)
  exact ⟨rfl, rfl, rfl⟩
theorem dotV_bd {n : Nat} {t : Int} (ht : 0 ≤ t ∧ t ≤ 255) : 0 ≤ dotV n t ∧ dotV n t ≤ n := by
  have b1 : t * (n : Int) ≤ 255 * n := Int.mul_le_mul_of_nonneg_right ht.2 (by omega)
  have b0 : 0 ≤ t * (n : Int) := Int.mul_nonneg ht.1 (by omega)
  unfold dotV near
  omega

theorem plc_bd {P g : Nat} {f x y : Int} (hP : 0 < P) (hg : 0 < g) : 0 ≤ plc P f g x y ∧ plc P f g x y < (g : Int) * P := by
  have z1 := Int.emod_nonneg y (show (g : Int) ≠ 0 by omega)
  have z2 := Int.emod_lt_of_pos y (show (0 : Int) < g by omega)
  unfold plc
  have z3 := Int.emod_nonneg (x - y / g % P * f) (show (P : Int) ≠ 0 by omega)
  have z4 := Int.emod_lt_of_pos (x - y / g % P * f) (show (0 : Int) < P by omega)
  have z5 := Int.mul_le_mul_of_nonneg_right (show y % (g : Int) ≤ g - 1 by omega) (show (0 : Int) ≤ P by omega)
  have z6 := Int.mul_nonneg z1 (show (0 : Int) ≤ P by omega)
  rw [Int.sub_mul] at z5
  omega

theorem tone_count {a b k f : Int} {P g m n : Nat} (hn : 1 ≤ a * a + b * b ∧ a * a + b * b ≤ 400) (F : Frm a b P f g) (en : a * a + b * b = n) (hm : P = g * m) (x y : Int) : ∀ d : Nat, d ≤ n →
    sumN (fun j => sumN (fun i => one (decide ((rks a b k P f g n).getD (plc P f g (x + i) (y + j)).toNat 0 < (d : Int)))) P) P = m * d := by
  have hP := F.pb
  have hg := F.gb
  have har := F.area
  intro d
  induction d with
  | zero =>
    intro _
    rw [sumN_zero]
    · simp
    · intro j _
      refine sumN_zero fun i _ => ?_
      rw [decide_eq_false]
      · rfl
      · have pb := plc_bd (P := P) (g := g) (f := f) (x := x + i) (y := y + j) (by omega) (by omega)
        unfold rks
        rw [tab_get (by omega)]; omega
  | succ d ih =>
    intro hd
    have hlt := ordK_lt (k := k) hn F en (i := d) (by omega)
    obtain ⟨q, eq⟩ : ∃ q, q = (ordK a b k P f g n).getD d 0 := ⟨_, rfl⟩
    rw [← eq] at hlt
    have step : ∀ i j : Nat, one (decide ((rks a b k P f g n).getD (plc P f g (x + i) (y + j)).toNat 0 < ((d + 1 : Nat) : Int))) = one (decide ((rks a b k P f g n).getD (plc P f g (x + i) (y + j)).toNat 0 < (d : Int))) + if plc P f g (x + i) (y + j) = q then 1 else 0 := fun i j => by
      have pb := plc_bd (P := P) (g := g) (f := f) (x := x + i) (y := y + j) (by omega) (by omega)
      obtain ⟨p, ep⟩ : ∃ p : Nat, plc P f g (x + i) (y + j) = p := ⟨(plc P f g (x + i) (y + j)).toNat, by omega⟩
      rw [ep] at pb ⊢
      rw [Int.toNat_natCast]
      unfold rks
      rw [tab_get (by omega)]
      have key : p = q ↔ rkK a b k P f g n p = d := by
        constructor
        · intro e; rw [e, eq, rkK_ord hn F en (by omega)]
        · intro e; rw [eq, ← e, ordK_rk hn F en (by omega)]
      by_cases h : p = q
      · have h2 := key.1 h
        rw [if_pos (by omega), decide_eq_true (by omega), decide_eq_false (by omega)]; rfl
      · have h2 : rkK a b k P f g n p ≠ d := fun e => h (key.2 e)
        rw [if_neg (by omega)]
        by_cases h3 : rkK a b k P f g n p < d
        · rw [decide_eq_true (by omega), decide_eq_true (by omega)]; rfl
        · rw [decide_eq_false (by omega), decide_eq_false (by omega)]; rfl
    have split : ∀ (u v : Nat → Int) (l : Nat), sumN (fun i => u i + v i) l = sumN u l + sumN v l := fun u v l => by
      induction l with
      | zero => rfl
      | succ l ih => simp only [sumN]; rw [ih]; omega
    have e1 : ∀ j : Nat, sumN (fun i => one (decide ((rks a b k P f g n).getD (plc P f g (x + i) (y + j)).toNat 0 < ((d + 1 : Nat) : Int)))) P = sumN (fun i => one (decide ((rks a b k P f g n).getD (plc P f g (x + i) (y + j)).toNat 0 < (d : Int)))) P + sumN (fun i => if plc P f g (x + i) (y + j) = q then 1 else 0) P := fun j => by
      rw [← split]; exact sumN_congr fun i _ => step i j
    have oa := occ_all (P := P) (g := g) (m := m) (f := f) (x := x) (y := y) (q := (q : Int)) (by omega) (by omega) hm ⟨by omega, by omega⟩
    unfold occ at oa
    simp only [sumN] at oa
    rw [sumN_congr fun j _ => e1 j, split, ih (by omega)]
    have e2 : (m : Int) * ((d + 1 : Nat) : Int) = m * d + m := by rw [Int.natCast_add, Int.mul_add]; simp
    omega

theorem HalftoneTone_law (a b k t x0 y0 : Int) (_ : rng .i64 a) (_ : rng .i64 b) (_ : rng .i64 k) (rt : rng .u8 t) (rx : rng .i64 x0) (ry : rng .i64 y0) :
    TC R Try.prog K2_HalftoneTone_f [.agg [.int .i64 a, .int .i64 b, .int .i64 k], .int .u8 t, .int .i64 x0, .int .i64 y0] [] (fun v X => v = .bool true ∧ X = []) := by
  simp only [rng] at rx ry rt
  have m1 := rMod_c x0 9 (by unfold Due; omega)
  have m2 := rMod_c y0 9 (by unfold Due; omega)
  obtain ⟨x, hx⟩ : ∃ x : Nat, x0 % 9 = x := ⟨(x0 % 9).toNat, by omega⟩
  obtain ⟨y, hy⟩ : ∃ y : Nat, y0 % 9 = y := ⟨(y0 % 9).toNat, by omega⟩
  have hx9 : x < 9 := by omega
  have hy9 : y < 9 := by omega
  rw [hx] at m1
  rw [hy] at m2
  refine tc0 env K2_HalftoneTone_s (by rfl) ?_
  dsimp only [K2_HalftoneTone_c]
  by_cases h0 : schk a b k = 0
  rotate_left
  · have pb := period_bad a b k h0
    have db := dots_bad h0 t
    generalize schk a b k = e at *
    repeat' (first
      | ((with_reducible refine TOps.any ?_); refine TOps.callV env (by rfl) (by rfl) (by rfl) (htWorks_c) ?_)
      | ((with_reducible refine TOps.any ?_); refine TOps.callV env (by rfl) (by rfl) (by rfl) (pb) ?_)
      | ((with_reducible refine TOps.any ?_); refine TOps.callV env (by rfl) (by rfl) (by rfl) (db) ?_)
      | refine GZp_i_y ?_ ?_ ?_ ?_ ?_ ?_ ?_ ?_
      | with_reducible first | exact BzZq.mk | refine Tw.ret ?_ | refine ImZq.i fun h => ?_ | refine IkZq.i fun hk => ?_)
    all_goals exact ⟨rfl, congrArg TV.bool (by simp), rfl⟩
  obtain ⟨P, f, g, oc, F⟩ := of_ex a b k h0
  obtain ⟨a1, a2, b1, b2, _, _, _, n1, n2⟩ := schk_ok h0
  have q1 := sq_bd ⟨a1, a2⟩
  have q2 := sq_bd ⟨b1, b2⟩
  have hP := F.pb
  have hg := F.gb
  have har := F.area
  obtain ⟨m, _, em, _⟩ := F.l3
  obtain ⟨P, rfl⟩ : ∃ p : Nat, P = p := ⟨P.toNat, by omega⟩
  obtain ⟨g, rfl⟩ : ∃ p : Nat, g = p := ⟨g.toNat, by omega⟩
  obtain ⟨n, en⟩ : ∃ n : Nat, a * a + b * b = n := ⟨(a * a + b * b).toNat, by omega⟩
  have hn : 1 ≤ n ∧ n ≤ 400 := by omega
  obtain ⟨m, rfl⟩ : ∃ p : Nat, m = p := ⟨m.toNat, by
    rcases Int.lt_or_le m 0 with h | h
    · have := Int.mul_le_mul_of_nonneg_left (show m ≤ -1 by omega) (show (0 : Int) ≤ g by omega); omega
    · omega⟩
  have em' : P = g * m := by have : (P : Int) = ((g * m : Nat) : Int) := by rw [em]; simp
                             omega
  have pc := period_ok a b k P f g h0 oc
  have dc := dots_c h0 t (by unfold Due; omega) n (by unfold Due; omega)
  have db := dotV_bd (n := n) (t := t) (by omega)
  by_cases hp : 40 < P
  · repeat' (first
      | ((with_reducible refine TOps.any ?_); refine TOps.callV env (by rfl) (by rfl) (by rfl) (htWorks_c) ?_)
      | ((with_reducible refine TOps.any ?_); refine TOps.callV env (by rfl) (by rfl) (by rfl) (pc) ?_)
      | ((with_reducible refine TOps.any ?_); refine TOps.callV env (by rfl) (by rfl) (by rfl) (dc) ?_)
      | refine GZp_i_y ?_ ?_ ?_ ?_ ?_ ?_ ?_ ?_
      | with_reducible first | exact BzZq.mk | refine Tw.ret ?_ | refine ImZq.i fun h => ?_ | refine IkZq.i fun hk => ?_)
    all_goals exact ⟨rfl, congrArg TV.bool (by simp), rfl⟩
  obtain ⟨d, ed⟩ : ∃ d : Nat, dotV n t = d := ⟨(dotV n t).toNat, by omega⟩
  obtain ⟨L, hL⟩ : ∃ L : List Int, L = List.replicate ((P + 9) * (P + 9)) t := ⟨_, rfl⟩
  have ll : L.length = (P + 9) * (P + 9) := by rw [hL]; simp
  have lv : ∀ i, i < L.length → L.getD i 0 = t := fun i hi => by rw [hL]; exact getD_repl (by omega)
  have ap := apply_c h0 F oc n (by unfold Due; omega) (P + 9) (P + 9) L (by unfold Due; omega) (by unfold Due; omega) ll (fun i hi => by rw [lv i hi]; omega)
  have cr := crop_c (P + 9) (P + 9) x y P P (hdot (rks a b k P f g n) P f g (dotT n) (P + 9) L) (by omega) (by omega) (by omega) (by omega) (by omega) (by omega)
  have cn := count_c P P _ (bm_ok (f := fun i j => hdot (rks a b k P f g n) P f g (dotT n) (P + 9) L (x + i) (y + j)) (by omega) (by omega))
  have pop : popL (bm P P fun i j => hdot (rks a b k P f g n) P f g (dotT n) (P + 9) L (x + i) (y + j)) = m * d := by
    rw [pop_bm (by omega), ← tone_count (k := k) ⟨n1, n2⟩ F en em' x y d (by omega)]
    refine sumN_congr fun j hj => sumN_congr fun i hi => ?_
    unfold hdot
    have hi2 : (y + j) * (P + 9) + (x + i) < L.length := by
      rw [ll]
      have := Nat.mul_le_mul_right (P + 9) (show y + j + 1 ≤ P + 9 by omega)
      rw [Nat.add_mul (y + j)] at this; omega
    rw [lv _ hi2, dot_get (by omega), ed]
    have c1 : ((x + i : Nat) : Int) = (x : Int) + i := by omega
    have c2 : ((y + j : Nat) : Int) = (y : Int) + j := by omega
    rw [c1, c2]
  rw [pop] at cn
  generalize bm (P + 9) (P + 9) (hdot (rks a b k P f g n) P f g (dotT n) (P + 9) L) = D1 at *
  generalize (bm P P fun i j => hdot (rks a b k P f g n) P f g (dotT n) (P + 9) L (x + i) (y + j)) = D2 at *
  rw [ed] at dc db
  have eq1 : (m : Int) * n = P * P := by
    have h1 : (n : Int) = g * P := by omega
    rw [h1, ← Int.mul_assoc, Int.mul_comm (m : Int) g, ← em]
  have ew : (P : Int) + 9 = ((P + 9 : Nat) : Int) := by omega
  have es : ((P : Int) + 9) * ((P : Int) + 9) = (((P + 9) * (P + 9) : Nat) : Int) := by simp
  have sz : (P + 9) * (P + 9) ≤ 49 * 49 := Nat.mul_le_mul (by omega) (by omega)
  clear pop ed hL
  have mb : (m : Int) ≤ 400 := by
    rcases Nat.lt_or_ge 400 m with hc | hc
    · have := Nat.mul_le_mul (show 1 ≤ g by omega) hc
      omega
    · omega
  generalize hQ : P + 9 = Q at *
  generalize hN : Q * Q = N at *
  have d1 : -9223372036854775808 ≤ ((P : Int) + 9) * ((P : Int) + 9) ∧ ((P : Int) + 9) * ((P : Int) + 9) ≤ 9223372036854775807 := by rw [es]; omega
  have d2 : 0 ≤ ((P : Int) + 9) * ((P : Int) + 9) ∧ ((P : Int) + 9) * ((P : Int) + 9) ≤ ((P : Int) + 9) * ((P : Int) + 9) ∧ ((P : Int) + 9) * ((P : Int) + 9) ≤ 281474976710656 ∧ ((1 : Nat) : Int) * (((P : Int) + 9) * ((P : Int) + 9)) ≤ 281474976710656 := by rw [es]; omega
  repeat' (first
    | ((with_reducible refine TOps.any ?_); refine TOps.callV env (by rfl) (by rfl) (by rfl) (htWorks_c) ?_)
    | ((with_reducible refine TOps.any ?_); refine TOps.callV env (by rfl) (by rfl) (by rfl) (pc) ?_)
    | ((with_reducible refine TOps.any ?_); refine TOps.callV env (by rfl) (by rfl) (by rfl) (dc) ?_)
    | ((with_reducible refine TOps.any ?_); refine TOps.callV env (by rfl) (by rfl) (by rfl) (m1) ?_)
    | ((with_reducible refine TOps.any ?_); refine TOps.callV env (by rfl) (by rfl) (by rfl) (m2) ?_)
    | exact d1
    | exact d2
    | refine GZp_i_y ?_ ?_ ?_ ?_ ?_ ?_ ?_ ?_
    | with_reducible first | exact BzZq.mk | refine Tw.ret ?_ | refine ImZq.i fun h => ?_ | refine IkZq.i fun hk => ?_)
  rw [es, ew]
  simp only [Int.toNat_natCast]
  refine Tw.loopK [1, 2, 3, 4, 8, 9, 10, 11, 12, 13] (fun i : Nat => i ≤ N) (fun i => N - i) (fun i => [(66, .int .i64 i), (65, .int .i64 N)])
    (fun i => [some (.cells [.int .i64 a, .int .i64 b, .int .i64 k]), some (.arr Ey (ptab N i fun _ => t)), some (.cells [.int .i64 Q, .int .i64 Q, .sla 1 1 0 N])]) ⟨0, by omega, TWk.fcanon env [some 0, some 1, some 2] (by rfl) ?_⟩ (fun i hi => ?_)
  · repeat' (first
      | exact ptab_zero
      | refine GZ_i_y ?_ ?_ ?_ ?_ ?_ ?_ ?_ ?_
      | with_reducible first | exact BzZq.mk | refine Tw.ret ?_ | refine ImZq.i fun h => ?_ | refine IkZq.i fun hk => ?_)
  have pl : (ptab N i fun _ => t).length = N := ptab_len
  rcases Nat.lt_or_ge i N with hi | hi
  · have ps : ptab N (i + 1) (fun _ => t) = (ptab N i fun _ => t).set i t := (ptab_set (f := fun _ => t)).symm
    repeat' (first
      | refine GZy_i_y pl ?_ ?_ ?_ ?_ ?_ ?_ ?_ ?_
      | with_reducible first | exact BzZq.mk | refine Tw.ret ?_ | refine ImZq.i fun h => ?_ | refine IkZq.i fun hk => ?_)
    refine ⟨i + 1, by omega, by omega, TWk.fcanon env [some 0, some 1, some 2] (by rfl) ?_⟩
    repeat' (first
      | exact ps
      | refine GZ_i_y ?_ ?_ ?_ ?_ ?_ ?_ ?_ ?_
      | with_reducible first | exact BzZq.mk | refine Tw.ret ?_ | refine ImZq.i fun h => ?_ | refine IkZq.i fun hk => ?_)
  · obtain rfl : N = i := by omega
    rw [ptab_all] at pl ⊢
    have eL : tab N (fun _ => t) = L := (is_tab 0 ll fun i hi => lv i (by omega)).symm
    rw [eL]
    repeat' (first
      | refine GZp_i_y ?_ ?_ ?_ ?_ ?_ ?_ ?_ ?_
      | with_reducible first | exact BzZq.mk | refine Tw.ret ?_ | refine ImZq.i fun h => ?_ | refine IkZq.i fun hk => ?_)
    refine TOps.frz env 1 (by rfl) (by rfl) (by rfl) ?_ ?_ ?_
    · repeat' (first
        | refine GZx_i_y ll ?_ ?_ ?_ ?_ ?_ ?_ ?_ ?_
        | with_reducible first | exact BzZq.mk | refine Tw.ret ?_ | refine ImZq.i fun h => ?_ | refine IkZq.i fun hk => ?_)
    · repeat' (first
        | refine GZx_i_y ll ?_ ?_ ?_ ?_ ?_ ?_ ?_ ?_
        | with_reducible first | exact BzZq.mk | refine Tw.ret ?_ | refine ImZq.i fun h => ?_ | refine IkZq.i fun hk => ?_)
    rw [cut_all ll.symm]
    have bd1 : (m : Int) * d ≤ 400 * 400 := Int.mul_le_mul (by omega) (by omega) (by omega) (by omega)
    have bd0 : 0 ≤ (m : Int) * d := Int.mul_nonneg (by omega) (by omega)
    have fin : (m : Int) * d * n = d * P * P := by
      rw [Int.mul_assoc, Int.mul_comm (d : Int) n, ← Int.mul_assoc, eq1, Int.mul_assoc (d : Int) P P, Int.mul_comm (d : Int)]
    have bd2 : (m : Int) * d * n ≤ 160000 * 400 := Int.mul_le_mul (by omega) (by omega) (by omega) (by omega)
    have bd3 : 0 ≤ (m : Int) * d * n := Int.mul_nonneg bd0 (by omega)
    have bd4 : (d : Int) * P ≤ 400 * 400 := Int.mul_le_mul (by omega) (by omega) (by omega) (by omega)
    have bd5 : 0 ≤ (d : Int) * P := Int.mul_nonneg (by omega) (by omega)
    have bd6 : 0 ≤ (d : Int) * P * P ∧ (d : Int) * P * P ≤ 160000 * 400 := by rw [← fin]; omega
    repeat' (first
      | ((with_reducible refine TOps.any ?_); refine TOps.callV env (by rfl) (by rfl) (by rfl) (ap) ?_)
      | ((with_reducible refine TOps.any ?_); refine TOps.callV env (by rfl) (by rfl) (by rfl) (cr) ?_)
      | ((with_reducible refine TOps.any ?_); refine TOps.callV env (by rfl) (by rfl) (by rfl) (cn) ?_)
      | refine GZp_i_y ?_ ?_ ?_ ?_ ?_ ?_ ?_ ?_
      | with_reducible first | exact BzZq.mk | refine Tw.ret ?_ | refine ImZq.i fun h => ?_ | refine IkZq.i fun hk => ?_)
    · intro _; rw [en]; omega
    · exact ⟨rfl, congrArg TV.bool (by rw [en, fin]; simp), trivial⟩
end Go.Proofs.Ytcehapmkhlmgdaa
