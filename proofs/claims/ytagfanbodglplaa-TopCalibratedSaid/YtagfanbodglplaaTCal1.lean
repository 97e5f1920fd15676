/- A plate of one tone; the facts' dots; growing dots stay in order: plain laws. -/
import Derived.Test.YtagfanbodglplaaSheet6
import Derived.Test.YtagfanbodglplaaHftW
import Derived.Test.YtagfanbodglplaaTMod
import Derived.Test.YtagfanbodglplaaPop
import Derived.Test.YtagfanbodglplaaFit1
import Derived.Test.YtagfanbodglplaaXTopCalibrated0
import Derived.Test.YtagfanbodglplaaGo
namespace Go.Proofs.Ytagfanbodglplaa
open Go Go.Lite
set_option linter.unusedVariables false
set_option linter.unusedSimpArgs false
set_option maxRecDepth 100000
set_option maxHeartbeats 4000000
-- @simp rdi rdy rd2i

theorem sDots_c : TC R Try.prog T_sDots_f [] [] (fun v X => v = .bool true ∧ X = []) := by
  obtain ⟨P, f, g, oc, F⟩ := of_ex 2 1 0 (by decide)
  obtain ⟨n1, k1, e1, e2⟩ := F.l1
  have hP := F.pb
  have hg := F.gb
  have hf := F.fb
  have ha := F.area
  have g1 : g = 1 := by
    rcases Int.lt_or_le 1 g with h | h
    · have z : 0 < n1 := by
        refine Int.not_le.1 fun hc => ?_
        have := Int.mul_le_mul_of_nonneg_left hc (show 0 ≤ g by omega)
        omega
      have := Int.mul_le_mul h (show (1 : Int) ≤ n1 by omega) (by omega) (by omega)
      omega
    · omega
  subst g1
  obtain rfl : P = 5 := by omega
  obtain rfl : n1 = 1 := by omega
  obtain rfl : f = 2 := by omega
  have ap := apply_g (k := 0) (by decide) F oc 5 (by unfold Due; decide) r21 rfl rk21_c 5 1 p55 (by unfold Due; omega) (by unfold Due; omega) (by unfold Due; rfl) (fun i hi => by
    have hi' : i < 5 := hi
    have : i = 0 ∨ i = 1 ∨ i = 2 ∨ i = 3 ∨ i = 4 := by omega
    rcases this with rfl | rfl | rfl | rfl | rfl <;> decide)
  have ev : bm 5 1 (hdot r21 5 2 1 (dotT 5) 5 p55) = [224] := by decide +kernel
  rw [ev] at ap
  have ok : BmOk 5 1 [224] := by rw [← ev]; exact bm_ok (by omega) (by omega)
  have cn := count_c 5 1 [224] (by unfold Due; exact ok)
  have pp : popL [224] = 3 := by decide +kernel
  rw [pp] at cn
  refine tc0 env T_sDots_s (by rfl) ?_
  dsimp only [T_sDots_c]
  repeat' (first
    | refine GZp_i_y_2i ?_ ?_ ?_ ?_ ?_ ?_ ?_ ?_
    | with_reducible first | exact BzZq.mk | refine Tw.ret ?_ | refine ImZq.i fun h => ?_ | refine IkZq.i fun hk => ?_)
  refine TOps.frz env 0 (by rfl) (by rfl) (by rfl) ?_ ?_ ?_
  · repeat' (first
      | refine GZ_i_y_2i ?_ ?_ ?_ ?_ ?_ ?_ ?_ ?_
      | with_reducible first | exact BzZq.mk | refine Tw.ret ?_ | refine ImZq.i fun h => ?_ | refine IkZq.i fun hk => ?_)
  · repeat' (first
      | refine GZ_i_y_2i ?_ ?_ ?_ ?_ ?_ ?_ ?_ ?_
      | with_reducible first | exact BzZq.mk | refine Tw.ret ?_ | refine ImZq.i fun h => ?_ | refine IkZq.i fun hk => ?_)
  repeat' (first
    | ((with_reducible refine TOps.any ?_); refine TOps.callV env (by rfl) (by rfl) (by rfl) (ap) ?_)
    | ((with_reducible refine TOps.any ?_); refine TOps.callV env (by rfl) (by rfl) (by rfl) (cn) ?_)
    | refine GZp_i_y_2i ?_ ?_ ?_ ?_ ?_ ?_ ?_ ?_
    | with_reducible first | exact BzZq.mk | refine Tw.ret ?_ | refine ImZq.i fun h => ?_ | refine IkZq.i fun hk => ?_)
  all_goals exact ⟨rfl, congrArg TV.bool (by decide), rfl⟩

theorem sFlat_c (s N : Nat) (t : Int) (hN : s * s = N) (hs : 1 ≤ s ∧ s ≤ 17) (ht : 0 ≤ t ∧ t ≤ 255) :
    TC R Try.prog T_sFlat_f [.int .i64 s, .int .i64 s, .int .u8 t] [] (fun v X => v = .agg [.int .i64 s, .int .i64 s, .lst Ey (List.replicate N t)] ∧ X = []) := by
  have es : (s : Int) * s = (N : Int) := by rw [← hN]; simp
  have nb : N ≤ 289 := by rw [← hN]; exact Nat.mul_le_mul (show s ≤ 17 by omega) (show s ≤ 17 by omega)
  have d1 : -9223372036854775808 ≤ (s : Int) * s ∧ (s : Int) * s ≤ 9223372036854775807 := by rw [es]; omega
  have d2 : 0 ≤ (s : Int) * s ∧ (s : Int) * s ≤ (s : Int) * s ∧ (s : Int) * s ≤ 281474976710656 ∧ ((1 : Nat) : Int) * ((s : Int) * s) ≤ 281474976710656 := by rw [es]; omega
  refine tc0 env T_sFlat_s (by rfl) ?_
  dsimp only [T_sFlat_c]
  repeat' (first
    | exact d1
    | exact d2
    | refine GZp_i_y_2i ?_ ?_ ?_ ?_ ?_ ?_ ?_ ?_
    | with_reducible first | exact BzZq.mk | refine Tw.ret ?_ | refine ImZq.i fun h => ?_ | refine IkZq.i fun hk => ?_)
  rw [es]
  simp only [Int.toNat_natCast]
  refine Tw.loopK [2, 18] (fun i : Nat => i ≤ N) (fun i => N - i) (fun i => [(19, .int .i64 i), (6, .ptr 0 0), (7, .ptr 2 0)])
    (fun i => [some (.cells [.int .i64 0, .int .i64 0, .nils]), some (.arr Ey (ptab N i fun _ => t)), some (.cells [.int .i64 s, .int .i64 s, .sla 1 1 0 N])]) ⟨0, by omega, TWk.fcanon env [some 0, some 1, some 2] (by rfl) ?_⟩ (fun i hi => ?_)
  · repeat' (first
      | exact ptab_zero
      | refine GZ_i_y_2i ?_ ?_ ?_ ?_ ?_ ?_ ?_ ?_
      | with_reducible first | exact BzZq.mk | refine Tw.ret ?_ | refine ImZq.i fun h => ?_ | refine IkZq.i fun hk => ?_)
  have pl : (ptab N i fun _ => t).length = N := ptab_len
  rcases Nat.lt_or_ge i N with hi | hi
  · have ps : ptab N (i + 1) (fun _ => t) = (ptab N i fun _ => t).set i t := (ptab_set (f := fun _ => t)).symm
    repeat' (first
      | refine GZy_i_y_2i pl ?_ ?_ ?_ ?_ ?_ ?_ ?_ ?_
      | with_reducible first | exact BzZq.mk | refine Tw.ret ?_ | refine ImZq.i fun h => ?_ | refine IkZq.i fun hk => ?_)
    refine ⟨i + 1, by omega, by omega, TWk.fcanon env [some 0, some 1, some 2] (by rfl) ?_⟩
    repeat' (first
      | exact ps
      | refine GZ_i_y_2i ?_ ?_ ?_ ?_ ?_ ?_ ?_ ?_
      | with_reducible first | exact BzZq.mk | refine Tw.ret ?_ | refine ImZq.i fun h => ?_ | refine IkZq.i fun hk => ?_)
  · obtain rfl : N = i := by omega
    rw [ptab_all]
    rw [show tab N (fun _ => t) = List.replicate N t from (is_tab 0 (by simp) fun i hi => getD_repl hi).symm]
    have rl : (List.replicate N t).length = N := by simp
    repeat' (first
      | ((with_reducible refine Tw.retI ?_); refine Tw.frz env 1 (by rfl) (by rfl) (by rfl) ?_ ?_ (Tw.ret ?_))
      | refine GZy_i_y_2i rl ?_ ?_ ?_ ?_ ?_ ?_ ?_ ?_
      | with_reducible first | exact BzZq.mk | refine Tw.ret ?_ | refine ImZq.i fun h => ?_ | refine IkZq.i fun hk => ?_)
    rw [cut_all rl.symm]
    exact ⟨rfl, rfl, trivial⟩

/-! ### Growing dots -/
theorem g1_mono {w k : Nat} {D E : List Int} (h : ∀ x y : Int, px w k D x y = true → px w k E x y = true) {x y : Nat} (hg : g1 w k D x y = true) : g1 w k E x y = true := by
  unfold g1 at hg ⊢
  simp only [Bool.or_eq_true] at hg ⊢
  rcases hg with (((h1 | h1) | h1) | h1) | h1
  · exact .inl (.inl (.inl (.inl (h _ _ h1))))
  · exact .inl (.inl (.inl (.inr (h _ _ h1))))
  · exact .inl (.inl (.inr (h _ _ h1)))
  · exact .inl (.inr (h _ _ h1))
  · exact .inr (h _ _ h1)
theorem px_le {w k : Nat} {f g : Nat → Nat → Bool} (h : ∀ x y, x < w → y < k → f x y = true → g x y = true) (x y : Int) (hp : px w k (bm w k f) x y = true) : px w k (bm w k g) x y = true := by
  by_cases hin : 0 ≤ x ∧ x < w ∧ 0 ≤ y ∧ y < k
  · obtain ⟨a, rfl⟩ : ∃ a : Nat, x = a := ⟨x.toNat, by omega⟩
    obtain ⟨b, rfl⟩ : ∃ b : Nat, y = b := ⟨y.toNat, by omega⟩
    rw [px_bm (by omega) (by omega)] at hp ⊢
    exact h a b (by omega) (by omega) hp
  · rw [px_out hin] at hp; cases hp
theorem grD_mono {w k : Nat} {D E : List Int} (h : ∀ x y : Int, px w k D x y = true → px w k E x y = true) : ∀ n (x y : Int), px w k (grD w k n D) x y = true → px w k (grD w k n E) x y = true
  | 0 => h
  | n + 1 => px_le fun _ _ _ _ hg => g1_mono (grD_mono h n) hg

/-- How many pixels a plate of the tone t prints, with growth n. -/
def dotP (s n : Nat) (hd : Int → Nat → Nat → Bool) (t : Int) (x y : Nat) : Bool := px s s (grD s s n (bm s s (hd t))) x y
def dotC (s n : Nat) (hd : Int → Nat → Nat → Bool) (t : Int) : Int := sumN (fun j => if dotP s n hd t (j % s) (j / s) then 1 else 0) (s * s)
theorem dotC_mono {s n : Nat} {hd : Int → Nat → Nat → Bool} {t u : Int} (h : ∀ x y, x < s → y < s → hd t x y = true → hd u x y = true) : dotC s n hd t ≤ dotC s n hd u := by
  refine sumN_le fun j _ => ?_
  by_cases e : dotP s n hd t (j % s) (j / s) = true
  · have := grD_mono (px_le h) n _ _ e
    rw [if_pos e, if_pos (show dotP s n hd u (j % s) (j / s) = true from this)]
    omega
  · rw [if_neg e]; split <;> omega
theorem dotC_bd {s n : Nat} {hd : Int → Nat → Nat → Bool} {t : Int} : 0 ≤ dotC s n hd t ∧ dotC s n hd t ≤ (s * s : Nat) := by
  have := sumN_bd (f := fun j => if dotP s n hd t (j % s) (j / s) then 1 else 0) (k := 1) (n := s * s) fun i _ => by split <;> omega
  unfold dotC; omega
theorem grD_all {s : Nat} {D : List Int} : ∀ n, (∀ x y : Nat, x < s → y < s → px s s D x y = true) → ∀ x y : Nat, x < s → y < s → px s s (grD s s n D) x y = true
  | 0, h => h
  | n + 1, h => fun x y hx hy => by
    show px s s (bm s s _) x y = true
    rw [px_bm hx hy]
    unfold g1
    rw [grD_all n h x y hx hy]; rfl
theorem dotC_full {s n : Nat} {hd : Int → Nat → Nat → Bool} {t : Int} (hs : 0 < s) (h : ∀ x y, x < s → y < s → hd t x y = true) : dotC s n hd t = (s * s : Nat) := by
  have e : ∀ j, j < s * s → (if dotP s n hd t (j % s) (j / s) then (1 : Int) else 0) = 1 := fun j hj => by
    have hx := Nat.mod_lt j hs
    have hy : j / s < s := Nat.div_lt_of_lt_mul hj
    refine if_pos (grD_all n (fun x y hx hy => ?_) _ _ hx hy)
    rw [px_bm hx hy]; exact h x y hx hy
  unfold dotC
  rw [sumN_congr e]
  have : ∀ n, sumN (fun _ => 1) n = (n : Int) := fun n => by
    induction n with
    | zero => rfl
    | succ n ih => show sumN (fun _ => 1) n + 1 = _; rw [ih]; omega
  exact this _
theorem plc_in {P g : Nat} {f x y : Int} (hP : 0 < P) (hg : 0 < g) : 0 ≤ plc P f g x y ∧ plc P f g x y < (g : Int) * P := by
  have z1 := Int.emod_nonneg y (show (g : Int) ≠ 0 by omega)
  have z2 := Int.emod_lt_of_pos y (show (0 : Int) < g by omega)
  unfold plc
  have z3 := Int.emod_nonneg (x - y / g % P * f) (show (P : Int) ≠ 0 by omega)
  have z4 := Int.emod_lt_of_pos (x - y / g % P * f) (show (0 : Int) < P by omega)
  have z5 := Int.mul_le_mul_of_nonneg_right (show y % (g : Int) ≤ g - 1 by omega) (show (0 : Int) ≤ P by omega)
  have z6 := Int.mul_nonneg z1 (show (0 : Int) ≤ P by omega)
  rw [Int.sub_mul] at z5
  omega
end Go.Proofs.Ytagfanbodglplaa
