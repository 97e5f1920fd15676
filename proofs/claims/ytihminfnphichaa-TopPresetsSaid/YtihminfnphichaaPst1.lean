/- Presses: the loads and the keys that belong to bitmaps and targets. -/
import Derived.Test.YtihminfnphichaaBits1
import Derived.Test.YtihminfnphichaaNear
import Derived.Test.YtihminfnphichaaLists
import Derived.Test.YtihminfnphichaaX0
import Derived.Test.YtihminfnphichaaGo
namespace Go.Proofs.Ytihminfnphichaa
open Go Go.Lite
set_option linter.unusedVariables false
set_option linter.unusedSimpArgs false
set_option maxRecDepth 100000
set_option maxHeartbeats 100000000
-- @simp rdi rdy rd2iLyJ rdLiJ

abbrev Bq := Nat × Nat × (Nat → Nat → Bool)
def dBq : Bq := (1, 1, fun _ _ => false)
def bqT (q : Bq) : Int × Int × List Int := ((q.1 : Int), (q.2.1 : Int), bm q.1 q.2.1 q.2.2)
def bqL (l : List Bq) : List (Int × Int × List Int) := l.map bqT
theorem bqL_len {l : List Bq} : (bqL l).length = l.length := List.length_map ..
theorem bqL_get {l : List Bq} {i : Nat} (h : i < l.length) : (bqL l).getD i (0, 0, []) = bqT (l.getD i dBq) := by
  rw [List.getD_eq_getElem?_getD, List.getD_eq_getElem?_getD, bqL, List.getElem?_map, List.getElem?_eq_getElem h]; rfl
structure BqOk (Z : Nat) (q : Bq) : Prop where
  w : 1 ≤ q.1 ∧ q.1 ≤ 1024
  h : 1 ≤ q.2.1 ∧ q.2.1 ≤ 1024
  z : Z ≤ q.1
/-- The black pixels of a row, from x0 on, n pixels; and of the first rows. -/
def cntR (f : Nat → Nat → Bool) (y x0 : Nat) : Nat → Nat
  | 0 => 0
  | n + 1 => cntR f y x0 n + (f (x0 + n) y).toNat
def cntB (f : Nat → Nat → Bool) (x0 n : Nat) : Nat → Nat
  | 0 => 0
  | y + 1 => cntB f x0 n y + cntR f y x0 n
theorem cntR_le {f : Nat → Nat → Bool} {y x0 : Nat} : ∀ n, cntR f y x0 n ≤ n
  | 0 => Nat.le_refl _
  | n + 1 => by
    have := cntR_le (f := f) (y := y) (x0 := x0) n
    rw [cntR]
    cases f (x0 + n) y <;> simp only [Bool.toNat_true, Bool.toNat_false] <;> omega
theorem cntB_le {f : Nat → Nat → Bool} {x0 n : Nat} : ∀ y, cntB f x0 n y ≤ n * y
  | 0 => Nat.le_refl _
  | y + 1 => by
    have := cntB_le (f := f) (x0 := x0) (n := n) y
    have := cntR_le (f := f) (y := y) (x0 := x0) n
    rw [cntB, Nat.mul_succ]
    omega
/-- Where a zone begins. -/
def zoF (w Z z : Nat) : Nat := z * w / Z
def ldQ (Z : Nat) (q : Bq) (z : Nat) : Int := near (8 * ((cntB q.2.2 (zoF q.1 Z z) (zoF q.1 Z (z + 1) - zoF q.1 Z z) q.2.1 : Nat) : Int)) ((((zoF q.1 Z (z + 1) : Nat) : Int) - ((zoF q.1 Z z : Nat) : Int)) * (q.2.1 : Int))
def kyQ (Z : Nat) (q : Bq) (t : Int) (z : Nat) : Int := min 1000 (near (t * (8 + ldQ Z q z)) 128)
theorem zoF_lt {w Z z : Nat} (hZ : 1 ≤ Z) (hw : Z ≤ w) : zoF w Z z < zoF w Z (z + 1) := by
  have h : z * w / Z + 1 ≤ (z + 1) * w / Z := by
    rw [← Nat.add_div_right _ (by omega)]
    refine Nat.div_le_div_right ?_
    rw [Nat.add_mul]; omega
  exact h
theorem zoF_le {w Z z : Nat} (hZ : 1 ≤ Z) (hz : z ≤ Z) : zoF w Z z ≤ w := by
  have : z * w / Z ≤ Z * w / Z := Nat.div_le_div_right (Nat.mul_le_mul_right _ hz)
  rwa [Nat.mul_div_cancel_left _ (by omega)] at this
theorem ldQ_in {Z : Nat} {q : Bq} {z : Nat} (ok : BqOk Z q) (hZ : 1 ≤ Z) : 0 ≤ ldQ Z q z ∧ ldQ Z q z ≤ 8 := by
  have h1 := zoF_lt (z := z) hZ ok.z
  have hh := ok.h
  unfold ldQ
  obtain ⟨a, ea⟩ : ∃ a, a = zoF q.1 Z z := ⟨_, rfl⟩
  obtain ⟨n, en⟩ : ∃ n, zoF q.1 Z (z + 1) = a + n := ⟨zoF q.1 Z (z + 1) - a, by omega⟩
  rw [← ea, en] at h1 ⊢
  rw [Nat.add_sub_cancel_left]
  have hc := cntB_le (f := q.2.2) (x0 := a) (n := n) q.2.1
  have e : (((a + n : Nat) : Int) - ((a : Nat) : Int)) * (q.2.1 : Int) = ((n * q.2.1 : Nat) : Int) := by
    rw [show ((a + n : Nat) : Int) - ((a : Nat) : Int) = (n : Int) by omega, Int.natCast_mul]
  rw [e]
  have hp : 1 ≤ n * q.2.1 := Nat.mul_pos (by omega) (by omega)
  unfold near
  generalize n * q.2.1 = d at *
  generalize cntB q.2.2 a n q.2.1 = c at *
  have hd : 0 < 2 * (d : Int) := by omega
  refine ⟨Int.ediv_nonneg (by omega) (by omega), ?_⟩
  have : (2 * (8 * (c : Int)) + d) / (2 * d) < 9 := Int.ediv_lt_of_lt_mul hd (by omega)
  omega
theorem kyQ_in {Z : Nat} {q : Bq} {t : Int} {z : Nat} (ok : BqOk Z q) (hZ : 1 ≤ Z) (ht : 0 ≤ t ∧ t ≤ 24000) : 0 ≤ kyQ Z q t z ∧ kyQ Z q t z ≤ 1000 := by
  have h := ldQ_in (z := z) ok hZ
  have h2 : 0 ≤ t * (8 + ldQ Z q z) := Int.mul_nonneg (by omega) (by omega)
  unfold kyQ near
  have : 0 ≤ (2 * (t * (8 + ldQ Z q z)) + 128) / (2 * 128) := Int.ediv_nonneg (by omega) (by omega)
  omega
theorem TWk.reF {N : Dim} {F F' : TF A} {H H' : TH A} (hF : embF R F' = embF R F) (h : embH R H' = embH R H) : TWk R N F' H' F H := by unfold TWk; rw [hF, h]; exact Wk.refl _ _
def psR (Z : Nat) (v k : Nat → List Int) : Nat → List (Option (TRow A))
  | 0 => []
  | 1 => [some (.cells [.sla 1 2 0 Z]), some (.cells [.sla 1 3 0 Z]), some (.arr Ei (v 0)), some (.arr Ei (k 0))]
  | 2 => [some (.cells [.sla 1 2 0 Z, .sla 1 4 0 Z]), some (.cells [.sla 1 3 0 Z, .sla 1 5 0 Z]), some (.arr Ei (v 0)), some (.arr Ei (k 0)), some (.arr Ei (v 1)), some (.arr Ei (k 1))]
  | _ => [some (.cells [.sla 1 2 0 Z, .sla 1 4 0 Z, .sla 1 6 0 Z]), some (.cells [.sla 1 3 0 Z, .sla 1 5 0 Z, .sla 1 7 0 Z]), some (.arr Ei (v 0)), some (.arr Ei (k 0)), some (.arr Ei (v 1)), some (.arr Ei (k 1)), some (.arr Ei (v 2)), some (.arr Ei (k 2))]
def psS (j : Nat) : Nat → TV A
  | 0 => .nils
  | i + 1 => .sl 1 j 0 (i + 1)
theorem presets_c (l : List Bq) (Z : Nat) (tg : List Int) (hn : Due (1 ≤ l.length ∧ l.length ≤ 3)) (hZ : Due (1 ≤ Z ∧ Z ≤ 16)) (htl : Due (tg.length = l.length)) (ht : ∀ i, i < l.length → 0 ≤ tg.getD i 0 ∧ tg.getD i 0 ≤ 24000) (ok : ∀ i, i < l.length → BqOk Z (l.getD i dBq)) :
    TC R Try.prog press_Presets_f [.lst E2iLyJ (bqL l), .int .i64 Z, .lst Ei tg] [] (fun v X => v = .tup [.lst ELiJ (tab l.length fun i => tab Z (ldQ Z (l.getD i dBq))), .lst ELiJ (tab l.length fun i => tab Z (kyQ Z (l.getD i dBq) (tg.getD i 0))), .int .i64 0] ∧ X = []) := by
  dsimp only [Due] at hn hZ htl
  obtain ⟨L, eL⟩ : ∃ L, L = bqL l := ⟨_, rfl⟩
  have lL : L.length = l.length := by rw [eL]; exact bqL_len
  obtain ⟨n, en⟩ : ∃ n, n = l.length := ⟨_, rfl⟩
  rw [← en] at hn htl ht ok lL
  rw [← eL, ← en]
  refine tc0 env press_Presets_s (by rfl) ?_
  dsimp only [press_Presets_c]
  repeat' (first
    | refine GZy_i_y_2iLyJ_LiJ lL ?_ ?_ ?_ ?_ ?_ ?_ ?_ ?_
    | with_reducible first | exact BzZq.mk | refine Tw.ret ?_ | refine ImZq.i fun h => ?_ | refine IkZq.i fun hk => ?_)
  refine Tw.loopK [0, 1, 2, 6, 7, 8, 32] (fun i : Nat => i ≤ n) (fun i => n - i) (fun i => [(34, .int .i64 i), (33, .int .i64 n)]) (fun _ => []) ⟨0, by omega, TWk.fcanon env [] (by rfl) ?_⟩ (fun i hi => ?_)
  · repeat' (first
      | refine GZx_i_y_2iLyJ_LiJ lL ?_ ?_ ?_ ?_ ?_ ?_ ?_ ?_
      | with_reducible first | exact BzZq.mk | refine Tw.ret ?_ | refine ImZq.i fun h => ?_ | refine IkZq.i fun hk => ?_)
  rcases Nat.lt_or_ge i n with hi | hi
  · have hq := ok i hi
    have ck : TC R Try.prog bitmap_Check_f [.agg [.int .i64 (L.getD i (R.d E2iLyJ)).1, .int .i64 (L.getD i (R.d E2iLyJ)).2.1, .lst Ey (L.getD i (R.d E2iLyJ)).2.2]] [] (fun v X => v = .int .i64 0 ∧ X = []) := by
      rw [show L.getD i (R.d E2iLyJ) = bqT (l.getD i dBq) by rw [eL]; exact bqL_get (by omega)]
      exact bCheck_y _ _ _ (by unfold Due; exact bm_ok hq.w hq.h)
    repeat' (first
      | ((with_reducible refine TOps.any ?_); refine TOps.callV env (by rfl) (by rfl) (by rfl) (ck) ?_)
      | refine GZp_i_y_2iLyJ_LiJ ?_ ?_ ?_ ?_ ?_ ?_ ?_ ?_
      | with_reducible first | exact BzZq.mk | refine Tw.ret ?_ | refine ImZq.i fun h => ?_ | refine IkZq.i fun hk => ?_)
    refine ⟨i + 1, by omega, by omega, TWk.fcanon env [] (by rfl) ?_⟩
    repeat' (first
      | refine GZ_i_y_2iLyJ_LiJ ?_ ?_ ?_ ?_ ?_ ?_ ?_ ?_
      | with_reducible first | exact BzZq.mk | refine Tw.ret ?_ | refine ImZq.i fun h => ?_ | refine IkZq.i fun hk => ?_)
  obtain rfl : n = i := by omega
  repeat' (first
    | refine GZy_i_y_2iLyJ_LiJ (And.intro lL htl) ?_ ?_ ?_ ?_ ?_ ?_ ?_ ?_
    | with_reducible first | exact BzZq.mk | refine Tw.ret ?_ | refine ImZq.i fun h => ?_ | refine IkZq.i fun hk => ?_)
  refine Tw.loopK [0, 1, 2, 6, 7, 8, 55] (fun i : Nat => i ≤ n) (fun i => n - i) (fun i => [(57, .int .i64 i), (56, .int .i64 n)]) (fun _ => []) ⟨0, by omega, TWk.fcanon env [] (by rfl) ?_⟩ (fun i hi => ?_)
  · repeat' (first
      | refine GZx_i_y_2iLyJ_LiJ htl ?_ ?_ ?_ ?_ ?_ ?_ ?_ ?_
      | with_reducible first | exact BzZq.mk | refine Tw.ret ?_ | refine ImZq.i fun h => ?_ | refine IkZq.i fun hk => ?_)
  rcases Nat.lt_or_ge i n with hi | hi
  · have tI := ht i hi
    repeat' (first
      | refine GZp_i_y_2iLyJ_LiJ ?_ ?_ ?_ ?_ ?_ ?_ ?_ ?_
      | with_reducible first | exact BzZq.mk | refine Tw.ret ?_ | refine ImZq.i fun h => ?_ | refine IkZq.i fun hk => ?_)
    refine ⟨i + 1, by omega, by omega, TWk.fcanon env [] (by rfl) ?_⟩
    repeat' (first
      | refine GZ_i_y_2iLyJ_LiJ ?_ ?_ ?_ ?_ ?_ ?_ ?_ ?_
      | with_reducible first | exact BzZq.mk | refine Tw.ret ?_ | refine ImZq.i fun h => ?_ | refine IkZq.i fun hk => ?_)
  obtain rfl : n = i := by omega
  repeat' (first
    | refine GZy_i_y_2iLyJ_LiJ lL ?_ ?_ ?_ ?_ ?_ ?_ ?_ ?_
    | with_reducible first | exact BzZq.mk | refine Tw.ret ?_ | refine ImZq.i fun h => ?_ | refine IkZq.i fun hk => ?_)
  obtain ⟨v, ev⟩ : ∃ v : Nat → List Int, v = fun i => tab Z (ldQ Z (l.getD i dBq)) := ⟨_, rfl⟩
  obtain ⟨k, ek⟩ : ∃ k : Nat → List Int, k = fun i => tab Z (kyQ Z (l.getD i dBq) (tg.getD i 0)) := ⟨_, rfl⟩
  have vl : ∀ i, (v i).length = Z := fun i => by rw [ev]; exact tab_len
  have kl : ∀ i, (k i).length = Z := fun i => by rw [ek]; exact tab_len
  have vg : ∀ i, Z ≤ (v i).length := fun i => Nat.le_of_eq (vl i).symm
  have kg : ∀ i, Z ≤ (k i).length := fun i => Nat.le_of_eq (kl i).symm
  refine Tw.loopK [0, 1, 2, 8] (fun i : Nat => i ≤ n) (fun i => n - i) (fun i => [(70, .int .i64 i), (69, .int .i64 n), (6, psS 0 i), (7, psS 1 i)]) (fun i => psR Z v k i) ⟨0, by omega, TWk.fcanon env [] (by rfl) ?_⟩ (fun i hi => ?_)
  · repeat' (first
      | exact rfl
      | refine GZx_i_y_2iLyJ_LiJ lL ?_ ?_ ?_ ?_ ?_ ?_ ?_ ?_
      | with_reducible first | exact BzZq.mk | refine Tw.ret ?_ | refine ImZq.i fun h => ?_ | refine IkZq.i fun hk => ?_)
  rcases Nat.lt_or_ge i n with hi | hi
  · obtain rfl | rfl | rfl : i = 0 ∨ i = 1 ∨ i = 2 := by omega
    · have hq := ok 0 (by omega)
      obtain ⟨q, eq⟩ : ∃ q, q = l.getD 0 dBq := ⟨_, rfl⟩
      have e0 : L.getD 0 (R.d E2iLyJ) = ((q.1 : Int), (q.2.1 : Int), bm q.1 q.2.1 q.2.2) := by rw [eL, eq]; exact bqL_get (by omega)
      rw [← eq] at hq
      have hw := hq.w
      have hh := hq.h
      have hz := hq.z
      have tI := ht 0 (by omega)
      have isx : ∀ x y : Nat, x < q.1 → y < q.2.1 → TC R Try.prog bitmap_Is_f [.pel [.int .i64 (L.getD 0 (R.d E2iLyJ)).1, .int .i64 (L.getD 0 (R.d E2iLyJ)).2.1, .lst Ey (L.getD 0 (R.d E2iLyJ)).2.2], .int .i64 (x : Int), .int .i64 (y : Int)] [] (fun v X => v = .bool (q.2.2 x y) ∧ X = []) := fun x y hx hy => by
        rw [e0]
        have := is_c q.1 q.2.1 (bm q.1 q.2.1 q.2.2) x y (by unfold Due; exact bm_ok hw hh)
        rw [px_bm hx hy] at this
        exact this
      have w1 : (L.getD 0 ((0 : Int), (0 : Int), ([] : List Int))).1 = (q.1 : Int) := by have := e0; rw [rd2iLyJ] at this; rw [this]
      have w2 : (L.getD 0 ((0 : Int), (0 : Int), ([] : List Int))).2.1 = (q.2.1 : Int) := by have := e0; rw [rd2iLyJ] at this; rw [this]
      repeat' (first
        | refine GZp_i_y_2iLyJ_LiJ ?_ ?_ ?_ ?_ ?_ ?_ ?_ ?_
        | with_reducible first | exact BzZq.mk | refine Tw.ret ?_ | refine ImZq.i fun h => ?_ | refine IkZq.i fun hk => ?_)
      refine Tw.loopK [0, 1, 2, 6, 7, 8, 14, 69, 70, 80] (fun z : Nat => z ≤ Z) (fun z => Z - z) (fun z => [(81, .int .i64 z), (15, .sla 1 0 0 z), (16, .sla 1 (0 + 1) 0 z)]) (fun z => psR Z v k 0 ++ [some (.arr Ei (tab z (ldQ Z q))), some (.arr Ei (tab z (kyQ Z q (tg.getD 0 0))))]) ⟨0, by omega, TWk.fcanon env [none, none] (by rfl) ?_⟩ (fun z hz' => ?_)
      · repeat' (first
          | exact rfl
          | refine GZ_i_y_2iLyJ_LiJ ?_ ?_ ?_ ?_ ?_ ?_ ?_ ?_
          | with_reducible first | exact BzZq.mk | refine Tw.ret ?_ | refine ImZq.i fun h => ?_ | refine IkZq.i fun hk => ?_)
      rcases Nat.lt_or_ge z Z with hz' | hz'
      · obtain ⟨a, ea⟩ : ∃ a, a = zoF q.1 Z z := ⟨_, rfl⟩
        obtain ⟨b, eb⟩ : ∃ b, b = zoF q.1 Z (z + 1) := ⟨_, rfl⟩
        have ab : a < b := by rw [ea, eb]; exact zoF_lt hZ.1 hz
        have bw : b ≤ q.1 := by rw [eb]; exact zoF_le hZ.1 (by omega)
        have p1 : (z : Int) * (q.1 : Int) = ((z * q.1 : Nat) : Int) := by simp
        have p2 : ((z : Int) + 1) * (q.1 : Int) = (((z + 1) * q.1 : Nat) : Int) := by simp
        have pb : (z + 1) * q.1 ≤ 16 * 1024 := Nat.mul_le_mul (by omega) hw.2
        have pa : z * q.1 ≤ (z + 1) * q.1 := Nat.mul_le_mul_right _ (by omega)
        have q1 : quo ((z : Int) * (q.1 : Int)) Z = (a : Int) := by rw [p1, quo_nn (by omega), ea]; rfl
        have q2 : quo (((z : Int) + 1) * (q.1 : Int)) Z = (b : Int) := by rw [p2, quo_nn (by omega), eb]; rfl
        obtain ⟨n', en'⟩ : ∃ n', b = a + n' := ⟨b - a, by omega⟩
        have en2 : b - a = n' := by omega
        have g1 : quo ((z : Int) * (L.getD 0 (R.d E2iLyJ)).1) Z = (a : Int) := by rw [e0]; exact q1
        have g2 : quo (((z : Int) + 1) * (L.getD 0 (R.d E2iLyJ)).1) Z = (b : Int) := by rw [e0]; exact q2
        have g3 : (L.getD 0 (R.d E2iLyJ)).2.1 = (q.2.1 : Int) := by rw [e0]
        repeat' (first
          | refine GZy_i_y_2iLyJ_LiJ (And.intro w1 (And.intro w2 (And.intro q1 q2))) ?_ ?_ ?_ ?_ ?_ ?_ ?_ ?_
          | with_reducible first | exact BzZq.mk | refine Tw.ret ?_ | refine ImZq.i fun h => ?_ | refine IkZq.i fun hk => ?_)
        refine Tw.loopK [0, 1, 2, 6, 7, 8, 14, 15, 16, 17, 69, 70, 80, 81] (fun y : Nat => y ≤ q.2.1) (fun y => q.2.1 - y) (fun y => [(108, .int .i64 y), (107, .int .i64 q.2.1), (18, .int .i64 a), (19, .int .i64 b), (20, .int .i64 ((cntB q.2.2 a n' y : Nat) : Int))]) (fun y => psR Z v k 0 ++ [some (.arr Ei (tab z (ldQ Z q))), some (.arr Ei (tab z (kyQ Z q (tg.getD 0 0))))]) ⟨0, by omega, TWk.fcanon env [some 0, some (0 + 1)] (by rfl) ?_⟩ (fun y hy => ?_)
        · repeat' (first
            | exact g1
            | exact g2
            | exact g3
            | exact g1.symm
            | exact g2.symm
            | exact g3.symm
            | refine GZ_i_y_2iLyJ_LiJ ?_ ?_ ?_ ?_ ?_ ?_ ?_ ?_
            | with_reducible first | exact BzZq.mk | refine Tw.ret ?_ | refine ImZq.i fun h => ?_ | refine IkZq.i fun hk => ?_)
        rcases Nat.lt_or_ge y q.2.1 with hy | hy
        · repeat' (first
            | refine GZp_i_y_2iLyJ_LiJ ?_ ?_ ?_ ?_ ?_ ?_ ?_ ?_
            | with_reducible first | exact BzZq.mk | refine Tw.ret ?_ | refine ImZq.i fun h => ?_ | refine IkZq.i fun hk => ?_)
          refine Tw.loopK [0, 1, 2, 6, 7, 8, 14, 15, 16, 17, 18, 19, 21, 69, 70, 80, 81, 107, 108] (fun x : Nat => x ≤ n') (fun x => n' - x) (fun x => [(22, .int .i64 ((a + x : Nat) : Int)), (20, .int .i64 ((cntB q.2.2 a n' y + cntR q.2.2 y a x : Nat) : Int))]) (fun x => psR Z v k 0 ++ [some (.arr Ei (tab z (ldQ Z q))), some (.arr Ei (tab z (kyQ Z q (tg.getD 0 0))))]) ⟨0, by omega, TWk.fcanon env [some 0, some (0 + 1)] (by rfl) ?_⟩ (fun x hx => ?_)
          · repeat' (first
              | exact rfl
              | refine GZ_i_y_2iLyJ_LiJ ?_ ?_ ?_ ?_ ?_ ?_ ?_ ?_
              | with_reducible first | exact BzZq.mk | refine Tw.ret ?_ | refine ImZq.i fun h => ?_ | refine IkZq.i fun hk => ?_)
          rcases Nat.lt_or_ge x n' with hx | hx
          · have is1 := isx (a + x) y (by omega) hy
            have cr := cntR_le (f := q.2.2) (y := y) (x0 := a) x
            have cb := cntB_le (f := q.2.2) (x0 := a) (n := n') y
            have cm : n' * y ≤ 1024 * 1024 := Nat.mul_le_mul (by omega) (by omega)
            have cs : cntR q.2.2 y a (x + 1) = cntR q.2.2 y a x + (q.2.2 (a + x) y).toNat := rfl
            cases hf : q.2.2 (a + x) y
            all_goals
              rw [hf] at is1 cs
              repeat' (first
                | ((with_reducible refine TOps.any ?_); refine TOps.callV env (by rfl) (by rfl) (by rfl) (is1) ?_)
                | refine GZp_i_y_2iLyJ_LiJ ?_ ?_ ?_ ?_ ?_ ?_ ?_ ?_
                | with_reducible first | exact BzZq.mk | refine Tw.ret ?_ | refine ImZq.i fun h => ?_ | refine IkZq.i fun hk => ?_)
              refine ⟨x + 1, by omega, by omega, TWk.fcanon env [some 0, some (0 + 1)] (by rfl) ?_⟩
              rw [cs]
              repeat' (first
                | exact rfl
                | refine GZ_i_y_2iLyJ_LiJ ?_ ?_ ?_ ?_ ?_ ?_ ?_ ?_
                | with_reducible first | exact BzZq.mk | refine Tw.ret ?_ | refine ImZq.i fun h => ?_ | refine IkZq.i fun hk => ?_)
          · obtain rfl : n' = x := by omega
            repeat' (first
              | refine GZp_i_y_2iLyJ_LiJ ?_ ?_ ?_ ?_ ?_ ?_ ?_ ?_
              | with_reducible first | exact BzZq.mk | refine Tw.ret ?_ | refine ImZq.i fun h => ?_ | refine IkZq.i fun hk => ?_)
            refine ⟨y + 1, by omega, by omega, TWk.fcanon env [some 0, some (0 + 1)] (by rfl) ?_⟩
            repeat' (first
              | exact rfl
              | refine GZ_i_y_2iLyJ_LiJ ?_ ?_ ?_ ?_ ?_ ?_ ?_ ?_
              | with_reducible first | exact BzZq.mk | refine Tw.ret ?_ | refine ImZq.i fun h => ?_ | refine IkZq.i fun hk => ?_)
        · obtain rfl : q.2.1 = y := by omega
          have cb := cntB_le (f := q.2.2) (x0 := a) (n := n') q.2.1
          have cm : n' * q.2.1 ≤ 1024 * 1024 := Nat.mul_le_mul (by omega) (by omega)
          have cp : 1 ≤ n' * q.2.1 := Nat.mul_pos (by omega) (by omega)
          have d1 : ((b : Int) - (a : Int)) * (L.getD 0 (R.d E2iLyJ)).2.1 = ((n' * q.2.1 : Nat) : Int) := by
            rw [g3, show (b : Int) - (a : Int) = (n' : Int) by omega, Int.natCast_mul]
          have ne1 := nearest_c (8 * ((cntB q.2.2 a n' q.2.1 : Nat) : Int)) (((b : Int) - (a : Int)) * (L.getD 0 (R.d E2iLyJ)).2.1) (by dsimp only [Due]; rw [d1]; omega)
          have lv : near (8 * ((cntB q.2.2 a n' q.2.1 : Nat) : Int)) (((b : Int) - (a : Int)) * (L.getD 0 (R.d E2iLyJ)).2.1) = ldQ Z q z := by
            rw [g3]
            unfold ldQ
            rw [← ea, ← eb, en2]
          rw [lv] at ne1
          have li := ldQ_in (z := z) hq hZ.1
          have m1 : 0 ≤ tg.getD 0 0 * (8 + ldQ Z q z) ∧ tg.getD 0 0 * (8 + ldQ Z q z) ≤ 24000 * 16 := ⟨Int.mul_nonneg (by omega) (by omega), Int.mul_le_mul (by omega) (by omega) (by omega) (by omega)⟩
          have ne2 := nearest_c (tg.getD 0 0 * (8 + ldQ Z q z)) 128 (by dsimp only [Due]; omega)
          have kv : kyQ Z q (tg.getD 0 0) z = min 1000 (near (tg.getD 0 0 * (8 + ldQ Z q z)) 128) := rfl
          have f1 : tab (z + 1) (ldQ Z q) = cut (tab z (ldQ Z q)) 0 z ++ cut [ldQ Z q z] 0 1 := by rw [cut_all tab_len.symm, tab_succ]; rfl
          have f2 : tab (z + 1) (kyQ Z q (tg.getD 0 0)) = cut (tab z (kyQ Z q (tg.getD 0 0))) 0 z ++ cut [min 1000 (near (tg.getD 0 0 * (8 + ldQ Z q z)) 128)] 0 1 := by rw [cut_all tab_len.symm, tab_succ]; rfl
          have t1 : (tab z (ldQ Z q)).length = z := tab_len
          have t2 : (tab z (kyQ Z q (tg.getD 0 0))).length = z := tab_len
          clear isx
          repeat' (first
            | ((with_reducible refine TOps.any ?_); refine TOps.callV env (by rfl) (by rfl) (by rfl) (ne1) ?_)
            | ((with_reducible refine TOps.any ?_); refine TOps.callV env (by rfl) (by rfl) (by rfl) (ne2) ?_)
            | exact m1
            | exact d1
            | refine GZy_i_y_2iLyJ_LiJ (And.intro t1 t2) ?_ ?_ ?_ ?_ ?_ ?_ ?_ ?_
            | with_reducible first | exact BzZq.mk | refine Tw.ret ?_ | refine ImZq.i fun h => ?_ | refine IkZq.i fun hk => ?_)
          refine ⟨z + 1, by omega, by omega, TWk.fcanon env [some (0 + 3), some (0 + 5)] (by rfl) ?_⟩
          repeat' (first
            | exact f1
            | exact f2
            | exact rfl
            | refine GZ_i_y_2iLyJ_LiJ ?_ ?_ ?_ ?_ ?_ ?_ ?_ ?_
            | with_reducible first | exact BzZq.mk | refine Tw.ret ?_ | refine ImZq.i fun h => ?_ | refine IkZq.i fun hk => ?_)
      · obtain rfl : Z = z := by omega
        have vq : v 0 = tab Z (ldQ Z q) := by rw [ev, eq]
        have kq : k 0 = tab Z (kyQ Z q (tg.getD 0 0)) := by rw [ek, eq]
        rw [← vq, ← kq]
        repeat' (first
          | exact vl 0
          | exact kl 0
          | exact vg 0
          | exact kg 0
          | refine GZy_i_y_2iLyJ_LiJ (And.intro vl kl) ?_ ?_ ?_ ?_ ?_ ?_ ?_ ?_
          | with_reducible first | exact BzZq.mk | refine Tw.ret ?_ | refine ImZq.i fun h => ?_ | refine IkZq.i fun hk => ?_)
        refine ⟨0 + 1, by omega, by omega, TWk.fcanon env [some 3, some 5, some 0, some 1] (by rfl) ?_⟩
        repeat' (first
          | exact rfl
          | refine GZ_i_y_2iLyJ_LiJ ?_ ?_ ?_ ?_ ?_ ?_ ?_ ?_
          | with_reducible first | exact BzZq.mk | refine Tw.ret ?_ | refine ImZq.i fun h => ?_ | refine IkZq.i fun hk => ?_)
    · have hq := ok 1 (by omega)
      obtain ⟨q, eq⟩ : ∃ q, q = l.getD 1 dBq := ⟨_, rfl⟩
      have e0 : L.getD 1 (R.d E2iLyJ) = ((q.1 : Int), (q.2.1 : Int), bm q.1 q.2.1 q.2.2) := by rw [eL, eq]; exact bqL_get (by omega)
      rw [← eq] at hq
      have hw := hq.w
      have hh := hq.h
      have hz := hq.z
      have tI := ht 1 (by omega)
      have isx : ∀ x y : Nat, x < q.1 → y < q.2.1 → TC R Try.prog bitmap_Is_f [.pel [.int .i64 (L.getD 1 (R.d E2iLyJ)).1, .int .i64 (L.getD 1 (R.d E2iLyJ)).2.1, .lst Ey (L.getD 1 (R.d E2iLyJ)).2.2], .int .i64 (x : Int), .int .i64 (y : Int)] [] (fun v X => v = .bool (q.2.2 x y) ∧ X = []) := fun x y hx hy => by
        rw [e0]
        have := is_c q.1 q.2.1 (bm q.1 q.2.1 q.2.2) x y (by unfold Due; exact bm_ok hw hh)
        rw [px_bm hx hy] at this
        exact this
      have w1 : (L.getD 1 ((0 : Int), (0 : Int), ([] : List Int))).1 = (q.1 : Int) := by have := e0; rw [rd2iLyJ] at this; rw [this]
      have w2 : (L.getD 1 ((0 : Int), (0 : Int), ([] : List Int))).2.1 = (q.2.1 : Int) := by have := e0; rw [rd2iLyJ] at this; rw [this]
      repeat' (first
        | refine GZp_i_y_2iLyJ_LiJ ?_ ?_ ?_ ?_ ?_ ?_ ?_ ?_
        | with_reducible first | exact BzZq.mk | refine Tw.ret ?_ | refine ImZq.i fun h => ?_ | refine IkZq.i fun hk => ?_)
      refine Tw.loopK [0, 1, 2, 6, 7, 8, 14, 69, 70, 80] (fun z : Nat => z ≤ Z) (fun z => Z - z) (fun z => [(81, .int .i64 z), (15, .sla 1 4 0 z), (16, .sla 1 (4 + 1) 0 z)]) (fun z => psR Z v k 1 ++ [some (.arr Ei (tab z (ldQ Z q))), some (.arr Ei (tab z (kyQ Z q (tg.getD 1 0))))]) ⟨0, by omega, TWk.fcanon env [some 0, some 1, some 2, some 3,none, none] (by rfl) ?_⟩ (fun z hz' => ?_)
      · repeat' (first
          | exact rfl
          | refine GZ_i_y_2iLyJ_LiJ ?_ ?_ ?_ ?_ ?_ ?_ ?_ ?_
          | with_reducible first | exact BzZq.mk | refine Tw.ret ?_ | refine ImZq.i fun h => ?_ | refine IkZq.i fun hk => ?_)
      rcases Nat.lt_or_ge z Z with hz' | hz'
      · obtain ⟨a, ea⟩ : ∃ a, a = zoF q.1 Z z := ⟨_, rfl⟩
        obtain ⟨b, eb⟩ : ∃ b, b = zoF q.1 Z (z + 1) := ⟨_, rfl⟩
        have ab : a < b := by rw [ea, eb]; exact zoF_lt hZ.1 hz
        have bw : b ≤ q.1 := by rw [eb]; exact zoF_le hZ.1 (by omega)
        have p1 : (z : Int) * (q.1 : Int) = ((z * q.1 : Nat) : Int) := by simp
        have p2 : ((z : Int) + 1) * (q.1 : Int) = (((z + 1) * q.1 : Nat) : Int) := by simp
        have pb : (z + 1) * q.1 ≤ 16 * 1024 := Nat.mul_le_mul (by omega) hw.2
        have pa : z * q.1 ≤ (z + 1) * q.1 := Nat.mul_le_mul_right _ (by omega)
        have q1 : quo ((z : Int) * (q.1 : Int)) Z = (a : Int) := by rw [p1, quo_nn (by omega), ea]; rfl
        have q2 : quo (((z : Int) + 1) * (q.1 : Int)) Z = (b : Int) := by rw [p2, quo_nn (by omega), eb]; rfl
        obtain ⟨n', en'⟩ : ∃ n', b = a + n' := ⟨b - a, by omega⟩
        have en2 : b - a = n' := by omega
        have g1 : quo ((z : Int) * (L.getD 1 (R.d E2iLyJ)).1) Z = (a : Int) := by rw [e0]; exact q1
        have g2 : quo (((z : Int) + 1) * (L.getD 1 (R.d E2iLyJ)).1) Z = (b : Int) := by rw [e0]; exact q2
        have g3 : (L.getD 1 (R.d E2iLyJ)).2.1 = (q.2.1 : Int) := by rw [e0]
        repeat' (first
          | refine GZy_i_y_2iLyJ_LiJ (And.intro w1 (And.intro w2 (And.intro q1 q2))) ?_ ?_ ?_ ?_ ?_ ?_ ?_ ?_
          | with_reducible first | exact BzZq.mk | refine Tw.ret ?_ | refine ImZq.i fun h => ?_ | refine IkZq.i fun hk => ?_)
        refine Tw.loopK [0, 1, 2, 6, 7, 8, 14, 15, 16, 17, 69, 70, 80, 81] (fun y : Nat => y ≤ q.2.1) (fun y => q.2.1 - y) (fun y => [(108, .int .i64 y), (107, .int .i64 q.2.1), (18, .int .i64 a), (19, .int .i64 b), (20, .int .i64 ((cntB q.2.2 a n' y : Nat) : Int))]) (fun y => psR Z v k 1 ++ [some (.arr Ei (tab z (ldQ Z q))), some (.arr Ei (tab z (kyQ Z q (tg.getD 1 0))))]) ⟨0, by omega, TWk.fcanon env [some 0, some 1, some 2, some 3,some 4, some (4 + 1)] (by rfl) ?_⟩ (fun y hy => ?_)
        · repeat' (first
            | exact g1
            | exact g2
            | exact g3
            | exact g1.symm
            | exact g2.symm
            | exact g3.symm
            | refine GZ_i_y_2iLyJ_LiJ ?_ ?_ ?_ ?_ ?_ ?_ ?_ ?_
            | with_reducible first | exact BzZq.mk | refine Tw.ret ?_ | refine ImZq.i fun h => ?_ | refine IkZq.i fun hk => ?_)
        rcases Nat.lt_or_ge y q.2.1 with hy | hy
        · repeat' (first
            | refine GZp_i_y_2iLyJ_LiJ ?_ ?_ ?_ ?_ ?_ ?_ ?_ ?_
            | with_reducible first | exact BzZq.mk | refine Tw.ret ?_ | refine ImZq.i fun h => ?_ | refine IkZq.i fun hk => ?_)
          refine Tw.loopK [0, 1, 2, 6, 7, 8, 14, 15, 16, 17, 18, 19, 21, 69, 70, 80, 81, 107, 108] (fun x : Nat => x ≤ n') (fun x => n' - x) (fun x => [(22, .int .i64 ((a + x : Nat) : Int)), (20, .int .i64 ((cntB q.2.2 a n' y + cntR q.2.2 y a x : Nat) : Int))]) (fun x => psR Z v k 1 ++ [some (.arr Ei (tab z (ldQ Z q))), some (.arr Ei (tab z (kyQ Z q (tg.getD 1 0))))]) ⟨0, by omega, TWk.fcanon env [some 0, some 1, some 2, some 3,some 4, some (4 + 1)] (by rfl) ?_⟩ (fun x hx => ?_)
          · repeat' (first
              | exact rfl
              | refine GZ_i_y_2iLyJ_LiJ ?_ ?_ ?_ ?_ ?_ ?_ ?_ ?_
              | with_reducible first | exact BzZq.mk | refine Tw.ret ?_ | refine ImZq.i fun h => ?_ | refine IkZq.i fun hk => ?_)
          rcases Nat.lt_or_ge x n' with hx | hx
          · have is1 := isx (a + x) y (by omega) hy
            have cr := cntR_le (f := q.2.2) (y := y) (x0 := a) x
            have cb := cntB_le (f := q.2.2) (x0 := a) (n := n') y
            have cm : n' * y ≤ 1024 * 1024 := Nat.mul_le_mul (by omega) (by omega)
            have cs : cntR q.2.2 y a (x + 1) = cntR q.2.2 y a x + (q.2.2 (a + x) y).toNat := rfl
            cases hf : q.2.2 (a + x) y
            all_goals
              rw [hf] at is1 cs
              repeat' (first
                | ((with_reducible refine TOps.any ?_); refine TOps.callV env (by rfl) (by rfl) (by rfl) (is1) ?_)
                | refine GZp_i_y_2iLyJ_LiJ ?_ ?_ ?_ ?_ ?_ ?_ ?_ ?_
                | with_reducible first | exact BzZq.mk | refine Tw.ret ?_ | refine ImZq.i fun h => ?_ | refine IkZq.i fun hk => ?_)
              refine ⟨x + 1, by omega, by omega, TWk.fcanon env [some 0, some 1, some 2, some 3,some 4, some (4 + 1)] (by rfl) ?_⟩
              rw [cs]
              repeat' (first
                | exact rfl
                | refine GZ_i_y_2iLyJ_LiJ ?_ ?_ ?_ ?_ ?_ ?_ ?_ ?_
                | with_reducible first | exact BzZq.mk | refine Tw.ret ?_ | refine ImZq.i fun h => ?_ | refine IkZq.i fun hk => ?_)
          · obtain rfl : n' = x := by omega
            repeat' (first
              | refine GZp_i_y_2iLyJ_LiJ ?_ ?_ ?_ ?_ ?_ ?_ ?_ ?_
              | with_reducible first | exact BzZq.mk | refine Tw.ret ?_ | refine ImZq.i fun h => ?_ | refine IkZq.i fun hk => ?_)
            refine ⟨y + 1, by omega, by omega, TWk.fcanon env [some 0, some 1, some 2, some 3,some 4, some (4 + 1)] (by rfl) ?_⟩
            repeat' (first
              | exact rfl
              | refine GZ_i_y_2iLyJ_LiJ ?_ ?_ ?_ ?_ ?_ ?_ ?_ ?_
              | with_reducible first | exact BzZq.mk | refine Tw.ret ?_ | refine ImZq.i fun h => ?_ | refine IkZq.i fun hk => ?_)
        · obtain rfl : q.2.1 = y := by omega
          have cb := cntB_le (f := q.2.2) (x0 := a) (n := n') q.2.1
          have cm : n' * q.2.1 ≤ 1024 * 1024 := Nat.mul_le_mul (by omega) (by omega)
          have cp : 1 ≤ n' * q.2.1 := Nat.mul_pos (by omega) (by omega)
          have d1 : ((b : Int) - (a : Int)) * (L.getD 1 (R.d E2iLyJ)).2.1 = ((n' * q.2.1 : Nat) : Int) := by
            rw [g3, show (b : Int) - (a : Int) = (n' : Int) by omega, Int.natCast_mul]
          have ne1 := nearest_c (8 * ((cntB q.2.2 a n' q.2.1 : Nat) : Int)) (((b : Int) - (a : Int)) * (L.getD 1 (R.d E2iLyJ)).2.1) (by dsimp only [Due]; rw [d1]; omega)
          have lv : near (8 * ((cntB q.2.2 a n' q.2.1 : Nat) : Int)) (((b : Int) - (a : Int)) * (L.getD 1 (R.d E2iLyJ)).2.1) = ldQ Z q z := by
            rw [g3]
            unfold ldQ
            rw [← ea, ← eb, en2]
          rw [lv] at ne1
          have li := ldQ_in (z := z) hq hZ.1
          have m1 : 0 ≤ tg.getD 1 0 * (8 + ldQ Z q z) ∧ tg.getD 1 0 * (8 + ldQ Z q z) ≤ 24000 * 16 := ⟨Int.mul_nonneg (by omega) (by omega), Int.mul_le_mul (by omega) (by omega) (by omega) (by omega)⟩
          have ne2 := nearest_c (tg.getD 1 0 * (8 + ldQ Z q z)) 128 (by dsimp only [Due]; omega)
          have kv : kyQ Z q (tg.getD 1 0) z = min 1000 (near (tg.getD 1 0 * (8 + ldQ Z q z)) 128) := rfl
          have f1 : tab (z + 1) (ldQ Z q) = cut (tab z (ldQ Z q)) 0 z ++ cut [ldQ Z q z] 0 1 := by rw [cut_all tab_len.symm, tab_succ]; rfl
          have f2 : tab (z + 1) (kyQ Z q (tg.getD 1 0)) = cut (tab z (kyQ Z q (tg.getD 1 0))) 0 z ++ cut [min 1000 (near (tg.getD 1 0 * (8 + ldQ Z q z)) 128)] 0 1 := by rw [cut_all tab_len.symm, tab_succ]; rfl
          have t1 : (tab z (ldQ Z q)).length = z := tab_len
          have t2 : (tab z (kyQ Z q (tg.getD 1 0))).length = z := tab_len
          clear isx
          repeat' (first
            | ((with_reducible refine TOps.any ?_); refine TOps.callV env (by rfl) (by rfl) (by rfl) (ne1) ?_)
            | ((with_reducible refine TOps.any ?_); refine TOps.callV env (by rfl) (by rfl) (by rfl) (ne2) ?_)
            | exact m1
            | exact d1
            | refine GZy_i_y_2iLyJ_LiJ (And.intro t1 t2) ?_ ?_ ?_ ?_ ?_ ?_ ?_ ?_
            | with_reducible first | exact BzZq.mk | refine Tw.ret ?_ | refine ImZq.i fun h => ?_ | refine IkZq.i fun hk => ?_)
          refine ⟨z + 1, by omega, by omega, TWk.fcanon env [some 0, some 1, some 2, some 3,some (4 + 3), some (4 + 5)] (by rfl) ?_⟩
          repeat' (first
            | exact f1
            | exact f2
            | exact rfl
            | refine GZ_i_y_2iLyJ_LiJ ?_ ?_ ?_ ?_ ?_ ?_ ?_ ?_
            | with_reducible first | exact BzZq.mk | refine Tw.ret ?_ | refine ImZq.i fun h => ?_ | refine IkZq.i fun hk => ?_)
      · obtain rfl : Z = z := by omega
        have vq : v 1 = tab Z (ldQ Z q) := by rw [ev, eq]
        have kq : k 1 = tab Z (kyQ Z q (tg.getD 1 0)) := by rw [ek, eq]
        rw [← vq, ← kq]
        repeat' (first
          | exact vl 1
          | exact kl 1
          | exact vg 1
          | exact kg 1
          | refine GZy_i_y_2iLyJ_LiJ (And.intro vl kl) ?_ ?_ ?_ ?_ ?_ ?_ ?_ ?_
          | with_reducible first | exact BzZq.mk | refine Tw.ret ?_ | refine ImZq.i fun h => ?_ | refine IkZq.i fun hk => ?_)
        refine ⟨1 + 1, by omega, by omega, TWk.fcanon env [some 7, some 9, some 2, some 3, some 4, some 5] (by rfl) ?_⟩
        repeat' (first
          | exact rfl
          | refine GZ_i_y_2iLyJ_LiJ ?_ ?_ ?_ ?_ ?_ ?_ ?_ ?_
          | with_reducible first | exact BzZq.mk | refine Tw.ret ?_ | refine ImZq.i fun h => ?_ | refine IkZq.i fun hk => ?_)
    · have hq := ok 2 (by omega)
      obtain ⟨q, eq⟩ : ∃ q, q = l.getD 2 dBq := ⟨_, rfl⟩
      have e0 : L.getD 2 (R.d E2iLyJ) = ((q.1 : Int), (q.2.1 : Int), bm q.1 q.2.1 q.2.2) := by rw [eL, eq]; exact bqL_get (by omega)
      rw [← eq] at hq
      have hw := hq.w
      have hh := hq.h
      have hz := hq.z
      have tI := ht 2 (by omega)
      have isx : ∀ x y : Nat, x < q.1 → y < q.2.1 → TC R Try.prog bitmap_Is_f [.pel [.int .i64 (L.getD 2 (R.d E2iLyJ)).1, .int .i64 (L.getD 2 (R.d E2iLyJ)).2.1, .lst Ey (L.getD 2 (R.d E2iLyJ)).2.2], .int .i64 (x : Int), .int .i64 (y : Int)] [] (fun v X => v = .bool (q.2.2 x y) ∧ X = []) := fun x y hx hy => by
        rw [e0]
        have := is_c q.1 q.2.1 (bm q.1 q.2.1 q.2.2) x y (by unfold Due; exact bm_ok hw hh)
        rw [px_bm hx hy] at this
        exact this
      have w1 : (L.getD 2 ((0 : Int), (0 : Int), ([] : List Int))).1 = (q.1 : Int) := by have := e0; rw [rd2iLyJ] at this; rw [this]
      have w2 : (L.getD 2 ((0 : Int), (0 : Int), ([] : List Int))).2.1 = (q.2.1 : Int) := by have := e0; rw [rd2iLyJ] at this; rw [this]
      repeat' (first
        | refine GZp_i_y_2iLyJ_LiJ ?_ ?_ ?_ ?_ ?_ ?_ ?_ ?_
        | with_reducible first | exact BzZq.mk | refine Tw.ret ?_ | refine ImZq.i fun h => ?_ | refine IkZq.i fun hk => ?_)
      refine Tw.loopK [0, 1, 2, 6, 7, 8, 14, 69, 70, 80] (fun z : Nat => z ≤ Z) (fun z => Z - z) (fun z => [(81, .int .i64 z), (15, .sla 1 6 0 z), (16, .sla 1 (6 + 1) 0 z)]) (fun z => psR Z v k 2 ++ [some (.arr Ei (tab z (ldQ Z q))), some (.arr Ei (tab z (kyQ Z q (tg.getD 2 0))))]) ⟨0, by omega, TWk.fcanon env [some 0, some 1, some 2, some 3, some 4, some 5,none, none] (by rfl) ?_⟩ (fun z hz' => ?_)
      · repeat' (first
          | exact rfl
          | refine GZ_i_y_2iLyJ_LiJ ?_ ?_ ?_ ?_ ?_ ?_ ?_ ?_
          | with_reducible first | exact BzZq.mk | refine Tw.ret ?_ | refine ImZq.i fun h => ?_ | refine IkZq.i fun hk => ?_)
      rcases Nat.lt_or_ge z Z with hz' | hz'
      · obtain ⟨a, ea⟩ : ∃ a, a = zoF q.1 Z z := ⟨_, rfl⟩
        obtain ⟨b, eb⟩ : ∃ b, b = zoF q.1 Z (z + 1) := ⟨_, rfl⟩
        have ab : a < b := by rw [ea, eb]; exact zoF_lt hZ.1 hz
        have bw : b ≤ q.1 := by rw [eb]; exact zoF_le hZ.1 (by omega)
        have p1 : (z : Int) * (q.1 : Int) = ((z * q.1 : Nat) : Int) := by simp
        have p2 : ((z : Int) + 1) * (q.1 : Int) = (((z + 1) * q.1 : Nat) : Int) := by simp
        have pb : (z + 1) * q.1 ≤ 16 * 1024 := Nat.mul_le_mul (by omega) hw.2
        have pa : z * q.1 ≤ (z + 1) * q.1 := Nat.mul_le_mul_right _ (by omega)
        have q1 : quo ((z : Int) * (q.1 : Int)) Z = (a : Int) := by rw [p1, quo_nn (by omega), ea]; rfl
        have q2 : quo (((z : Int) + 1) * (q.1 : Int)) Z = (b : Int) := by rw [p2, quo_nn (by omega), eb]; rfl
        obtain ⟨n', en'⟩ : ∃ n', b = a + n' := ⟨b - a, by omega⟩
        have en2 : b - a = n' := by omega
        have g1 : quo ((z : Int) * (L.getD 2 (R.d E2iLyJ)).1) Z = (a : Int) := by rw [e0]; exact q1
        have g2 : quo (((z : Int) + 1) * (L.getD 2 (R.d E2iLyJ)).1) Z = (b : Int) := by rw [e0]; exact q2
        have g3 : (L.getD 2 (R.d E2iLyJ)).2.1 = (q.2.1 : Int) := by rw [e0]
        repeat' (first
          | refine GZy_i_y_2iLyJ_LiJ (And.intro w1 (And.intro w2 (And.intro q1 q2))) ?_ ?_ ?_ ?_ ?_ ?_ ?_ ?_
          | with_reducible first | exact BzZq.mk | refine Tw.ret ?_ | refine ImZq.i fun h => ?_ | refine IkZq.i fun hk => ?_)
        refine Tw.loopK [0, 1, 2, 6, 7, 8, 14, 15, 16, 17, 69, 70, 80, 81] (fun y : Nat => y ≤ q.2.1) (fun y => q.2.1 - y) (fun y => [(108, .int .i64 y), (107, .int .i64 q.2.1), (18, .int .i64 a), (19, .int .i64 b), (20, .int .i64 ((cntB q.2.2 a n' y : Nat) : Int))]) (fun y => psR Z v k 2 ++ [some (.arr Ei (tab z (ldQ Z q))), some (.arr Ei (tab z (kyQ Z q (tg.getD 2 0))))]) ⟨0, by omega, TWk.fcanon env [some 0, some 1, some 2, some 3, some 4, some 5,some 6, some (6 + 1)] (by rfl) ?_⟩ (fun y hy => ?_)
        · repeat' (first
            | exact g1
            | exact g2
            | exact g3
            | exact g1.symm
            | exact g2.symm
            | exact g3.symm
            | refine GZ_i_y_2iLyJ_LiJ ?_ ?_ ?_ ?_ ?_ ?_ ?_ ?_
            | with_reducible first | exact BzZq.mk | refine Tw.ret ?_ | refine ImZq.i fun h => ?_ | refine IkZq.i fun hk => ?_)
        rcases Nat.lt_or_ge y q.2.1 with hy | hy
        · repeat' (first
            | refine GZp_i_y_2iLyJ_LiJ ?_ ?_ ?_ ?_ ?_ ?_ ?_ ?_
            | with_reducible first | exact BzZq.mk | refine Tw.ret ?_ | refine ImZq.i fun h => ?_ | refine IkZq.i fun hk => ?_)
          refine Tw.loopK [0, 1, 2, 6, 7, 8, 14, 15, 16, 17, 18, 19, 21, 69, 70, 80, 81, 107, 108] (fun x : Nat => x ≤ n') (fun x => n' - x) (fun x => [(22, .int .i64 ((a + x : Nat) : Int)), (20, .int .i64 ((cntB q.2.2 a n' y + cntR q.2.2 y a x : Nat) : Int))]) (fun x => psR Z v k 2 ++ [some (.arr Ei (tab z (ldQ Z q))), some (.arr Ei (tab z (kyQ Z q (tg.getD 2 0))))]) ⟨0, by omega, TWk.fcanon env [some 0, some 1, some 2, some 3, some 4, some 5,some 6, some (6 + 1)] (by rfl) ?_⟩ (fun x hx => ?_)
          · repeat' (first
              | exact rfl
              | refine GZ_i_y_2iLyJ_LiJ ?_ ?_ ?_ ?_ ?_ ?_ ?_ ?_
              | with_reducible first | exact BzZq.mk | refine Tw.ret ?_ | refine ImZq.i fun h => ?_ | refine IkZq.i fun hk => ?_)
          rcases Nat.lt_or_ge x n' with hx | hx
          · have is1 := isx (a + x) y (by omega) hy
            have cr := cntR_le (f := q.2.2) (y := y) (x0 := a) x
            have cb := cntB_le (f := q.2.2) (x0 := a) (n := n') y
            have cm : n' * y ≤ 1024 * 1024 := Nat.mul_le_mul (by omega) (by omega)
            have cs : cntR q.2.2 y a (x + 1) = cntR q.2.2 y a x + (q.2.2 (a + x) y).toNat := rfl
            cases hf : q.2.2 (a + x) y
            all_goals
              rw [hf] at is1 cs
              repeat' (first
                | ((with_reducible refine TOps.any ?_); refine TOps.callV env (by rfl) (by rfl) (by rfl) (is1) ?_)
                | refine GZp_i_y_2iLyJ_LiJ ?_ ?_ ?_ ?_ ?_ ?_ ?_ ?_
                | with_reducible first | exact BzZq.mk | refine Tw.ret ?_ | refine ImZq.i fun h => ?_ | refine IkZq.i fun hk => ?_)
              refine ⟨x + 1, by omega, by omega, TWk.fcanon env [some 0, some 1, some 2, some 3, some 4, some 5,some 6, some (6 + 1)] (by rfl) ?_⟩
              rw [cs]
              repeat' (first
                | exact rfl
                | refine GZ_i_y_2iLyJ_LiJ ?_ ?_ ?_ ?_ ?_ ?_ ?_ ?_
                | with_reducible first | exact BzZq.mk | refine Tw.ret ?_ | refine ImZq.i fun h => ?_ | refine IkZq.i fun hk => ?_)
          · obtain rfl : n' = x := by omega
            repeat' (first
              | refine GZp_i_y_2iLyJ_LiJ ?_ ?_ ?_ ?_ ?_ ?_ ?_ ?_
              | with_reducible first | exact BzZq.mk | refine Tw.ret ?_ | refine ImZq.i fun h => ?_ | refine IkZq.i fun hk => ?_)
            refine ⟨y + 1, by omega, by omega, TWk.fcanon env [some 0, some 1, some 2, some 3, some 4, some 5,some 6, some (6 + 1)] (by rfl) ?_⟩
            repeat' (first
              | exact rfl
              | refine GZ_i_y_2iLyJ_LiJ ?_ ?_ ?_ ?_ ?_ ?_ ?_ ?_
              | with_reducible first | exact BzZq.mk | refine Tw.ret ?_ | refine ImZq.i fun h => ?_ | refine IkZq.i fun hk => ?_)
        · obtain rfl : q.2.1 = y := by omega
          have cb := cntB_le (f := q.2.2) (x0 := a) (n := n') q.2.1
          have cm : n' * q.2.1 ≤ 1024 * 1024 := Nat.mul_le_mul (by omega) (by omega)
          have cp : 1 ≤ n' * q.2.1 := Nat.mul_pos (by omega) (by omega)
          have d1 : ((b : Int) - (a : Int)) * (L.getD 2 (R.d E2iLyJ)).2.1 = ((n' * q.2.1 : Nat) : Int) := by
            rw [g3, show (b : Int) - (a : Int) = (n' : Int) by omega, Int.natCast_mul]
          have ne1 := nearest_c (8 * ((cntB q.2.2 a n' q.2.1 : Nat) : Int)) (((b : Int) - (a : Int)) * (L.getD 2 (R.d E2iLyJ)).2.1) (by dsimp only [Due]; rw [d1]; omega)
          have lv : near (8 * ((cntB q.2.2 a n' q.2.1 : Nat) : Int)) (((b : Int) - (a : Int)) * (L.getD 2 (R.d E2iLyJ)).2.1) = ldQ Z q z := by
            rw [g3]
            unfold ldQ
            rw [← ea, ← eb, en2]
          rw [lv] at ne1
          have li := ldQ_in (z := z) hq hZ.1
          have m1 : 0 ≤ tg.getD 2 0 * (8 + ldQ Z q z) ∧ tg.getD 2 0 * (8 + ldQ Z q z) ≤ 24000 * 16 := ⟨Int.mul_nonneg (by omega) (by omega), Int.mul_le_mul (by omega) (by omega) (by omega) (by omega)⟩
          have ne2 := nearest_c (tg.getD 2 0 * (8 + ldQ Z q z)) 128 (by dsimp only [Due]; omega)
          have kv : kyQ Z q (tg.getD 2 0) z = min 1000 (near (tg.getD 2 0 * (8 + ldQ Z q z)) 128) := rfl
          have f1 : tab (z + 1) (ldQ Z q) = cut (tab z (ldQ Z q)) 0 z ++ cut [ldQ Z q z] 0 1 := by rw [cut_all tab_len.symm, tab_succ]; rfl
          have f2 : tab (z + 1) (kyQ Z q (tg.getD 2 0)) = cut (tab z (kyQ Z q (tg.getD 2 0))) 0 z ++ cut [min 1000 (near (tg.getD 2 0 * (8 + ldQ Z q z)) 128)] 0 1 := by rw [cut_all tab_len.symm, tab_succ]; rfl
          have t1 : (tab z (ldQ Z q)).length = z := tab_len
          have t2 : (tab z (kyQ Z q (tg.getD 2 0))).length = z := tab_len
          clear isx
          repeat' (first
            | ((with_reducible refine TOps.any ?_); refine TOps.callV env (by rfl) (by rfl) (by rfl) (ne1) ?_)
            | ((with_reducible refine TOps.any ?_); refine TOps.callV env (by rfl) (by rfl) (by rfl) (ne2) ?_)
            | exact m1
            | exact d1
            | refine GZy_i_y_2iLyJ_LiJ (And.intro t1 t2) ?_ ?_ ?_ ?_ ?_ ?_ ?_ ?_
            | with_reducible first | exact BzZq.mk | refine Tw.ret ?_ | refine ImZq.i fun h => ?_ | refine IkZq.i fun hk => ?_)
          refine ⟨z + 1, by omega, by omega, TWk.fcanon env [some 0, some 1, some 2, some 3, some 4, some 5,some (6 + 3), some (6 + 5)] (by rfl) ?_⟩
          repeat' (first
            | exact f1
            | exact f2
            | exact rfl
            | refine GZ_i_y_2iLyJ_LiJ ?_ ?_ ?_ ?_ ?_ ?_ ?_ ?_
            | with_reducible first | exact BzZq.mk | refine Tw.ret ?_ | refine ImZq.i fun h => ?_ | refine IkZq.i fun hk => ?_)
      · obtain rfl : Z = z := by omega
        have vq : v 2 = tab Z (ldQ Z q) := by rw [ev, eq]
        have kq : k 2 = tab Z (kyQ Z q (tg.getD 2 0)) := by rw [ek, eq]
        rw [← vq, ← kq]
        repeat' (first
          | exact vl 2
          | exact kl 2
          | exact vg 2
          | exact kg 2
          | refine GZy_i_y_2iLyJ_LiJ (And.intro vl kl) ?_ ?_ ?_ ?_ ?_ ?_ ?_ ?_
          | with_reducible first | exact BzZq.mk | refine Tw.ret ?_ | refine ImZq.i fun h => ?_ | refine IkZq.i fun hk => ?_)
        refine ⟨2 + 1, by omega, by omega, TWk.fcanon env [some 9, some 11, some 2, some 3, some 4, some 5, some 6, some 7] (by rfl) ?_⟩
        repeat' (first
          | exact rfl
          | refine GZ_i_y_2iLyJ_LiJ ?_ ?_ ?_ ?_ ?_ ?_ ?_ ?_
          | with_reducible first | exact BzZq.mk | refine Tw.ret ?_ | refine ImZq.i fun h => ?_ | refine IkZq.i fun hk => ?_)
  · obtain rfl : n = i := by omega
    obtain rfl | rfl | rfl : n = 1 ∨ n = 2 ∨ n = 3 := by omega
    · refine Tw.frz env 2 (by rfl) (by rfl) (by rfl) ?_ ?_ ?_
      · repeat' (first
          | refine GZx_i_y_2iLyJ_LiJ (And.intro vl kl) ?_ ?_ ?_ ?_ ?_ ?_ ?_ ?_
          | with_reducible first | exact BzZq.mk | refine Tw.ret ?_ | refine ImZq.i fun h => ?_ | refine IkZq.i fun hk => ?_)
      · repeat' (first
          | refine GZx_i_y_2iLyJ_LiJ (And.intro vl kl) ?_ ?_ ?_ ?_ ?_ ?_ ?_ ?_
          | with_reducible first | exact BzZq.mk | refine Tw.ret ?_ | refine ImZq.i fun h => ?_ | refine IkZq.i fun hk => ?_)
      rw [cut_all (vl 0).symm]
      refine Tw.frz env 3 (by rfl) (by rfl) (by rfl) ?_ ?_ ?_
      · repeat' (first
          | refine GZx_i_y_2iLyJ_LiJ (And.intro vl kl) ?_ ?_ ?_ ?_ ?_ ?_ ?_ ?_
          | with_reducible first | exact BzZq.mk | refine Tw.ret ?_ | refine ImZq.i fun h => ?_ | refine IkZq.i fun hk => ?_)
      · repeat' (first
          | refine GZx_i_y_2iLyJ_LiJ (And.intro vl kl) ?_ ?_ ?_ ?_ ?_ ?_ ?_ ?_
          | with_reducible first | exact BzZq.mk | refine Tw.ret ?_ | refine ImZq.i fun h => ?_ | refine IkZq.i fun hk => ?_)
      rw [cut_all (kl 0).symm]
      refine Tw.weaken (TWk.reF (F' := [(70, .int .i64 (1 : Int)), (69, .int .i64 (1 : Int)), (6, .sla 1 0 0 1), (7, .sla 1 1 0 1), (0, .lst E2iLyJ L), (1, .int .i64 Z), (2, .lst Ei tg), (8, .int .i64 0)]) (H' := [some (.arr ELiJ [v 0]), some (.arr ELiJ [k 0]), none, none]) (by rfl) (by rfl)) ?_
      refine Tw.frz env 0 (by rfl) (by rfl) (by rfl) ?_ ?_ ?_
      · repeat' (first
          | refine GZ_i_y_2iLyJ_LiJ ?_ ?_ ?_ ?_ ?_ ?_ ?_ ?_
          | with_reducible first | exact BzZq.mk | refine Tw.ret ?_ | refine ImZq.i fun h => ?_ | refine IkZq.i fun hk => ?_)
      · repeat' (first
          | refine GZ_i_y_2iLyJ_LiJ ?_ ?_ ?_ ?_ ?_ ?_ ?_ ?_
          | with_reducible first | exact BzZq.mk | refine Tw.ret ?_ | refine ImZq.i fun h => ?_ | refine IkZq.i fun hk => ?_)
      refine Tw.frz env 1 (by rfl) (by rfl) (by rfl) ?_ ?_ ?_
      · repeat' (first
          | refine GZ_i_y_2iLyJ_LiJ ?_ ?_ ?_ ?_ ?_ ?_ ?_ ?_
          | with_reducible first | exact BzZq.mk | refine Tw.ret ?_ | refine ImZq.i fun h => ?_ | refine IkZq.i fun hk => ?_)
      · repeat' (first
          | refine GZ_i_y_2iLyJ_LiJ ?_ ?_ ?_ ?_ ?_ ?_ ?_ ?_
          | with_reducible first | exact BzZq.mk | refine Tw.ret ?_ | refine ImZq.i fun h => ?_ | refine IkZq.i fun hk => ?_)
      repeat' (first
        | refine GZp_i_y_2iLyJ_LiJ ?_ ?_ ?_ ?_ ?_ ?_ ?_ ?_
        | with_reducible first | exact BzZq.mk | refine Tw.ret ?_ | refine ImZq.i fun h => ?_ | refine IkZq.i fun hk => ?_)
      exact ⟨rfl, by rw [ev, ek]; rfl, rfl⟩
    · refine Tw.frz env 2 (by rfl) (by rfl) (by rfl) ?_ ?_ ?_
      · repeat' (first
          | refine GZx_i_y_2iLyJ_LiJ (And.intro vl kl) ?_ ?_ ?_ ?_ ?_ ?_ ?_ ?_
          | with_reducible first | exact BzZq.mk | refine Tw.ret ?_ | refine ImZq.i fun h => ?_ | refine IkZq.i fun hk => ?_)
      · repeat' (first
          | refine GZx_i_y_2iLyJ_LiJ (And.intro vl kl) ?_ ?_ ?_ ?_ ?_ ?_ ?_ ?_
          | with_reducible first | exact BzZq.mk | refine Tw.ret ?_ | refine ImZq.i fun h => ?_ | refine IkZq.i fun hk => ?_)
      rw [cut_all (vl 0).symm]
      refine Tw.frz env 3 (by rfl) (by rfl) (by rfl) ?_ ?_ ?_
      · repeat' (first
          | refine GZx_i_y_2iLyJ_LiJ (And.intro vl kl) ?_ ?_ ?_ ?_ ?_ ?_ ?_ ?_
          | with_reducible first | exact BzZq.mk | refine Tw.ret ?_ | refine ImZq.i fun h => ?_ | refine IkZq.i fun hk => ?_)
      · repeat' (first
          | refine GZx_i_y_2iLyJ_LiJ (And.intro vl kl) ?_ ?_ ?_ ?_ ?_ ?_ ?_ ?_
          | with_reducible first | exact BzZq.mk | refine Tw.ret ?_ | refine ImZq.i fun h => ?_ | refine IkZq.i fun hk => ?_)
      rw [cut_all (kl 0).symm]
      refine Tw.frz env 4 (by rfl) (by rfl) (by rfl) ?_ ?_ ?_
      · repeat' (first
          | refine GZx_i_y_2iLyJ_LiJ (And.intro vl kl) ?_ ?_ ?_ ?_ ?_ ?_ ?_ ?_
          | with_reducible first | exact BzZq.mk | refine Tw.ret ?_ | refine ImZq.i fun h => ?_ | refine IkZq.i fun hk => ?_)
      · repeat' (first
          | refine GZx_i_y_2iLyJ_LiJ (And.intro vl kl) ?_ ?_ ?_ ?_ ?_ ?_ ?_ ?_
          | with_reducible first | exact BzZq.mk | refine Tw.ret ?_ | refine ImZq.i fun h => ?_ | refine IkZq.i fun hk => ?_)
      rw [cut_all (vl 1).symm]
      refine Tw.frz env 5 (by rfl) (by rfl) (by rfl) ?_ ?_ ?_
      · repeat' (first
          | refine GZx_i_y_2iLyJ_LiJ (And.intro vl kl) ?_ ?_ ?_ ?_ ?_ ?_ ?_ ?_
          | with_reducible first | exact BzZq.mk | refine Tw.ret ?_ | refine ImZq.i fun h => ?_ | refine IkZq.i fun hk => ?_)
      · repeat' (first
          | refine GZx_i_y_2iLyJ_LiJ (And.intro vl kl) ?_ ?_ ?_ ?_ ?_ ?_ ?_ ?_
          | with_reducible first | exact BzZq.mk | refine Tw.ret ?_ | refine ImZq.i fun h => ?_ | refine IkZq.i fun hk => ?_)
      rw [cut_all (kl 1).symm]
      refine Tw.weaken (TWk.reF (F' := [(70, .int .i64 (2 : Int)), (69, .int .i64 (2 : Int)), (6, .sla 1 0 0 2), (7, .sla 1 1 0 2), (0, .lst E2iLyJ L), (1, .int .i64 Z), (2, .lst Ei tg), (8, .int .i64 0)]) (H' := [some (.arr ELiJ [v 0, v 1]), some (.arr ELiJ [k 0, k 1]), none, none, none, none]) (by rfl) (by rfl)) ?_
      refine Tw.frz env 0 (by rfl) (by rfl) (by rfl) ?_ ?_ ?_
      · repeat' (first
          | refine GZ_i_y_2iLyJ_LiJ ?_ ?_ ?_ ?_ ?_ ?_ ?_ ?_
          | with_reducible first | exact BzZq.mk | refine Tw.ret ?_ | refine ImZq.i fun h => ?_ | refine IkZq.i fun hk => ?_)
      · repeat' (first
          | refine GZ_i_y_2iLyJ_LiJ ?_ ?_ ?_ ?_ ?_ ?_ ?_ ?_
          | with_reducible first | exact BzZq.mk | refine Tw.ret ?_ | refine ImZq.i fun h => ?_ | refine IkZq.i fun hk => ?_)
      refine Tw.frz env 1 (by rfl) (by rfl) (by rfl) ?_ ?_ ?_
      · repeat' (first
          | refine GZ_i_y_2iLyJ_LiJ ?_ ?_ ?_ ?_ ?_ ?_ ?_ ?_
          | with_reducible first | exact BzZq.mk | refine Tw.ret ?_ | refine ImZq.i fun h => ?_ | refine IkZq.i fun hk => ?_)
      · repeat' (first
          | refine GZ_i_y_2iLyJ_LiJ ?_ ?_ ?_ ?_ ?_ ?_ ?_ ?_
          | with_reducible first | exact BzZq.mk | refine Tw.ret ?_ | refine ImZq.i fun h => ?_ | refine IkZq.i fun hk => ?_)
      repeat' (first
        | refine GZp_i_y_2iLyJ_LiJ ?_ ?_ ?_ ?_ ?_ ?_ ?_ ?_
        | with_reducible first | exact BzZq.mk | refine Tw.ret ?_ | refine ImZq.i fun h => ?_ | refine IkZq.i fun hk => ?_)
      exact ⟨rfl, by rw [ev, ek]; rfl, rfl⟩
    · refine Tw.frz env 2 (by rfl) (by rfl) (by rfl) ?_ ?_ ?_
      · repeat' (first
          | refine GZx_i_y_2iLyJ_LiJ (And.intro vl kl) ?_ ?_ ?_ ?_ ?_ ?_ ?_ ?_
          | with_reducible first | exact BzZq.mk | refine Tw.ret ?_ | refine ImZq.i fun h => ?_ | refine IkZq.i fun hk => ?_)
      · repeat' (first
          | refine GZx_i_y_2iLyJ_LiJ (And.intro vl kl) ?_ ?_ ?_ ?_ ?_ ?_ ?_ ?_
          | with_reducible first | exact BzZq.mk | refine Tw.ret ?_ | refine ImZq.i fun h => ?_ | refine IkZq.i fun hk => ?_)
      rw [cut_all (vl 0).symm]
      refine Tw.frz env 3 (by rfl) (by rfl) (by rfl) ?_ ?_ ?_
      · repeat' (first
          | refine GZx_i_y_2iLyJ_LiJ (And.intro vl kl) ?_ ?_ ?_ ?_ ?_ ?_ ?_ ?_
          | with_reducible first | exact BzZq.mk | refine Tw.ret ?_ | refine ImZq.i fun h => ?_ | refine IkZq.i fun hk => ?_)
      · repeat' (first
          | refine GZx_i_y_2iLyJ_LiJ (And.intro vl kl) ?_ ?_ ?_ ?_ ?_ ?_ ?_ ?_
          | with_reducible first | exact BzZq.mk | refine Tw.ret ?_ | refine ImZq.i fun h => ?_ | refine IkZq.i fun hk => ?_)
      rw [cut_all (kl 0).symm]
      refine Tw.frz env 4 (by rfl) (by rfl) (by rfl) ?_ ?_ ?_
      · repeat' (first
          | refine GZx_i_y_2iLyJ_LiJ (And.intro vl kl) ?_ ?_ ?_ ?_ ?_ ?_ ?_ ?_
          | with_reducible first | exact BzZq.mk | refine Tw.ret ?_ | refine ImZq.i fun h => ?_ | refine IkZq.i fun hk => ?_)
      · repeat' (first
          | refine GZx_i_y_2iLyJ_LiJ (And.intro vl kl) ?_ ?_ ?_ ?_ ?_ ?_ ?_ ?_
          | with_reducible first | exact BzZq.mk | refine Tw.ret ?_ | refine ImZq.i fun h => ?_ | refine IkZq.i fun hk => ?_)
      rw [cut_all (vl 1).symm]
      refine Tw.frz env 5 (by rfl) (by rfl) (by rfl) ?_ ?_ ?_
      · repeat' (first
          | refine GZx_i_y_2iLyJ_LiJ (And.intro vl kl) ?_ ?_ ?_ ?_ ?_ ?_ ?_ ?_
          | with_reducible first | exact BzZq.mk | refine Tw.ret ?_ | refine ImZq.i fun h => ?_ | refine IkZq.i fun hk => ?_)
      · repeat' (first
          | refine GZx_i_y_2iLyJ_LiJ (And.intro vl kl) ?_ ?_ ?_ ?_ ?_ ?_ ?_ ?_
          | with_reducible first | exact BzZq.mk | refine Tw.ret ?_ | refine ImZq.i fun h => ?_ | refine IkZq.i fun hk => ?_)
      rw [cut_all (kl 1).symm]
      refine Tw.frz env 6 (by rfl) (by rfl) (by rfl) ?_ ?_ ?_
      · repeat' (first
          | refine GZx_i_y_2iLyJ_LiJ (And.intro vl kl) ?_ ?_ ?_ ?_ ?_ ?_ ?_ ?_
          | with_reducible first | exact BzZq.mk | refine Tw.ret ?_ | refine ImZq.i fun h => ?_ | refine IkZq.i fun hk => ?_)
      · repeat' (first
          | refine GZx_i_y_2iLyJ_LiJ (And.intro vl kl) ?_ ?_ ?_ ?_ ?_ ?_ ?_ ?_
          | with_reducible first | exact BzZq.mk | refine Tw.ret ?_ | refine ImZq.i fun h => ?_ | refine IkZq.i fun hk => ?_)
      rw [cut_all (vl 2).symm]
      refine Tw.frz env 7 (by rfl) (by rfl) (by rfl) ?_ ?_ ?_
      · repeat' (first
          | refine GZx_i_y_2iLyJ_LiJ (And.intro vl kl) ?_ ?_ ?_ ?_ ?_ ?_ ?_ ?_
          | with_reducible first | exact BzZq.mk | refine Tw.ret ?_ | refine ImZq.i fun h => ?_ | refine IkZq.i fun hk => ?_)
      · repeat' (first
          | refine GZx_i_y_2iLyJ_LiJ (And.intro vl kl) ?_ ?_ ?_ ?_ ?_ ?_ ?_ ?_
          | with_reducible first | exact BzZq.mk | refine Tw.ret ?_ | refine ImZq.i fun h => ?_ | refine IkZq.i fun hk => ?_)
      rw [cut_all (kl 2).symm]
      refine Tw.weaken (TWk.reF (F' := [(70, .int .i64 (3 : Int)), (69, .int .i64 (3 : Int)), (6, .sla 1 0 0 3), (7, .sla 1 1 0 3), (0, .lst E2iLyJ L), (1, .int .i64 Z), (2, .lst Ei tg), (8, .int .i64 0)]) (H' := [some (.arr ELiJ [v 0, v 1, v 2]), some (.arr ELiJ [k 0, k 1, k 2]), none, none, none, none, none, none]) (by rfl) (by rfl)) ?_
      refine Tw.frz env 0 (by rfl) (by rfl) (by rfl) ?_ ?_ ?_
      · repeat' (first
          | refine GZ_i_y_2iLyJ_LiJ ?_ ?_ ?_ ?_ ?_ ?_ ?_ ?_
          | with_reducible first | exact BzZq.mk | refine Tw.ret ?_ | refine ImZq.i fun h => ?_ | refine IkZq.i fun hk => ?_)
      · repeat' (first
          | refine GZ_i_y_2iLyJ_LiJ ?_ ?_ ?_ ?_ ?_ ?_ ?_ ?_
          | with_reducible first | exact BzZq.mk | refine Tw.ret ?_ | refine ImZq.i fun h => ?_ | refine IkZq.i fun hk => ?_)
      refine Tw.frz env 1 (by rfl) (by rfl) (by rfl) ?_ ?_ ?_
      · repeat' (first
          | refine GZ_i_y_2iLyJ_LiJ ?_ ?_ ?_ ?_ ?_ ?_ ?_ ?_
          | with_reducible first | exact BzZq.mk | refine Tw.ret ?_ | refine ImZq.i fun h => ?_ | refine IkZq.i fun hk => ?_)
      · repeat' (first
          | refine GZ_i_y_2iLyJ_LiJ ?_ ?_ ?_ ?_ ?_ ?_ ?_ ?_
          | with_reducible first | exact BzZq.mk | refine Tw.ret ?_ | refine ImZq.i fun h => ?_ | refine IkZq.i fun hk => ?_)
      repeat' (first
        | refine GZp_i_y_2iLyJ_LiJ ?_ ?_ ?_ ?_ ?_ ?_ ?_ ?_
        | with_reducible first | exact BzZq.mk | refine Tw.ret ?_ | refine ImZq.i fun h => ?_ | refine IkZq.i fun hk => ?_)
      exact ⟨rfl, by rw [ev, ek]; rfl, rfl⟩
end Go.Proofs.Ytihminfnphichaa
