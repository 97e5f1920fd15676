/- Reed-Solomon: Decode, walked. -/
import Derived.Test.YthkilkjngincpaaRs8
import Derived.Test.YthkilkjngincpaaRsL
import Derived.Test.YthkilkjngincpaaGo
namespace Go.Proofs.Ythkilkjngincpaa
open Go Go.Lite
set_option linter.unusedVariables false
set_option linter.unusedSimpArgs false
set_option maxRecDepth 100000
set_option maxHeartbeats 4000000
-- @simp rdi rdy rdo

/-- How many of the first n numbers are as p says. -/
def cntB (p : Nat → Bool) (n : Nat) : Nat := ((List.range n).filter p).length
theorem cntB_succ (p : Nat → Bool) (n : Nat) : cntB p (n + 1) = cntB p n + (if p n then 1 else 0) := by
  unfold cntB
  rw [List.range_succ, List.filter_append, List.length_append]
  cases h : p n <;> simp [h]
theorem cntB_le (p : Nat → Bool) (n : Nat) : cntB p n ≤ n := by
  unfold cntB
  have := List.length_filter_le p (List.range n)
  simpa using this
/-- Repair gives the code word. -/
theorem repaired {N t rho M : Nat} {f c : Nat → BitVec 8} {pl : Nat → Nat} (hN : 1 ≤ N ∧ N ≤ 255) (ht : 1 ≤ t ∧ t ≤ 64 ∧ rho ≤ t) (hM : 400 ≤ M) (hpl : ∀ i, i < rho → pl i < N) (hd : ∀ i j, i < rho → j < rho → pl i = pl j → i = j)
    (hw : 2 * (bad N (fun j => f j ^^^ c j) (erK pl rho)).length + rho ≤ t) {i : Nat} (hi : i < N) :
    f i ^^^ corr N t (lRun N (fun j => f j ^^^ c j) M rho (gK N pl rho) (t - rho)).lc (syn N fun j => f j ^^^ c j) (lRun N (fun j => f j ^^^ c j) M rho (gK N pl rho) (t - rho)).C i = c i := by
  obtain ⟨e, he⟩ : ∃ e, e = fun j => f j ^^^ c j := ⟨_, rfl⟩
  rw [← he] at hw ⊢
  have gg : ∀ j, j < N → erK pl rho j = true → ev (gK N pl rho) M (eY N j) = 0#8 := fun j _ h => gK_ev N pl M rho (by omega) j h
  have loc := lRun_loc (e := e) hN.2 (gK_0 N pl rho) (gK_z N pl rho) gg (t - rho) (by omega)
  have len := lRun_len (N := N) (M := M) (e := e) (gK_0 N pl rho) (gK_z N pl rho) (fun k => (lRun_ge k).1) (t - rho)
  have lc := lRun_lc (N := N) (M := M) (rho := rho) (e := e) (G := gK N pl rho) (t - rho)
  have la := alls_len N e (erK pl rho)
  rw [losts_len hpl hd] at la
  generalize lRun N e M rho (gK N pl rho) (t - rho) = s at *
  rw [show rho + (t - rho) = t by omega] at loc len lc
  have l2 := loc.l2
  have fnd := loc.found hN.2 hw
  have q1 := len.c1
  have q2 := len.cz
  have fnd2 : ∀ j, j < N → (e j ≠ 0#8 ∨ erK pl rho j = true) → ev s.C s.lc (eY N j) = 0#8 := fun j hj hh => by rw [← ev_more (n := M) (by omega) q2]; exact fnd j hj hh
  have pr := put_right (N := N) (t := t) (L := s.lc) (u := s.lc / 2) (i := i) (e := e) (C := s.C) (er := erK pl rho) hN.2 hi len.c0 q2 (by omega) (by omega) (by omega) (by omega) fnd2
  have e1 : corr N t s.lc (syn N e) s.C i = e i := pr
  rw [e1, he, ← BitVec.xor_assoc, BitVec.xor_self, BitVec.zero_xor]
theorem rsDecN_c (N t  M : Nat) (f c : Nat → BitVec 8) (pl : Nat → Nat) (hb : Due (1 ≤ t ∧ t ≤ 64 ∧ t < N ∧ N ≤ 255 ∧ 0 ≤ t ∧ 400 ≤ M)) (hc : Due (∀ i, i < t → hor (rt i) c N = 0#8)) (hpl : Due (∀ i, i < 0 → pl i < N)) (hd : ∀ i j, i < 0 → j < 0 → pl i = pl j → i = j)
    (hw : Due (2 * (bad N (fun j => f j ^^^ c j) (erK pl 0)).length + 0 ≤ t)) :
    TC R Try.prog reedsolomon_Decode_f [.lst Ey (btab N f), .int .i64 t, .nils] [] (fun v X => v = .tup [.lst Ey (btab N c), .int .i64 (cntB (fun j => decide (f j ^^^ c j ≠ 0#8)) N), .int .i64 0] ∧ X = []) := by
  dsimp only [Due] at hb hc hpl hw
  have nl : ∀ g, (btab N g).length = N := fun _ => btab_len
  have al : (tab 0 fun k => ((pl k : Nat) : Int)).length = 0 := tab_len
  have tl : ∀ g : Nat → Bool, (tab N g).length = N := fun _ => tab_len
  have rk := rcheck_c N t (btab N f) btab_len
  rw [if_neg (by omega), if_neg (by omega), if_neg (by omega)] at rk
  obtain ⟨e, he⟩ : ∃ e, e = fun j => f j ^^^ c j := ⟨_, rfl⟩
  have hw0 := hw
  rw [← he] at hw
  have sc := synd_r f N t (by unfold Due; omega)
  have sy : ∀ i, i < t → hor (rt i) f N = syn N e i := fun i hi => by rw [he]; exact syn_hor (hc i hi)
  rw [btab_congr sy] at sc
  refine tc0 env reedsolomon_Decode_s (by rfl) ?_
  dsimp only [reedsolomon_Decode_c]
  repeat' (first
    | ((with_reducible refine TOps.any ?_); refine TOps.callV env (by rfl) (by rfl) (by rfl) (rk) ?_)
    | refine GZy_i_y_o nl ?_ ?_ ?_ ?_ ?_ ?_ ?_ ?_
    | with_reducible first | exact BzZq.mk | refine Tw.ret ?_ | refine ImZq.i fun h => ?_ | refine IkZq.i fun hk => ?_)
  rw [nl]
  skip
  refine Tw.loopK [0, 1, 2, 31, 32] (fun k : Nat => k ≤ 0) (fun k => 0 - k) (fun k => [(33, .int .i64 k), (10, .sla 1 0 0 N), (11, .sla 1 1 0 (k + 1))])
    (fun k => [some (.arr Eo (tab N (erK pl k))), some (.arr Ey (btab (k + 1) (gK N pl k)))]) ⟨0, by omega, TWk.fcanon env [some 0, some 1] (by rfl) ?_⟩ (fun k hk => ?_)
  · have z0 : tab N (erK pl 0) = List.replicate N false := tab_repl.symm
    have z1 : btab (0 + 1) (gK N pl 0) = [(1 : Int)] := rfl
    repeat' (first
      | exact z0
      | exact z0.symm
      | exact z1
      | exact z1.symm
      | refine GZ_i_y_o ?_ ?_ ?_ ?_ ?_ ?_ ?_ ?_
      | with_reducible first | exact BzZq.mk | refine Tw.ret ?_ | refine ImZq.i fun h => ?_ | refine IkZq.i fun hk => ?_)
  rcases Nat.lt_or_ge k 0 with hk | hk
  · exact absurd hk (by omega)
  obtain rfl : 0 = k := by omega
  have bf : N * 1 ≤ 140737488355328 ∧ N ≤ 140737488355328 := by omega
  have la := alls_len N e (erK pl 0)
  rw [losts_len hpl hd] at la
  by_cases cl : ∀ i, i < t → hor (rt i) f N = 0#8
  · rw [decide_eq_true cl] at sc
    have e0 := no_errors (N := N) (t := t) (e := e) (er := erK pl 0) (by omega) (fun i hi => by rw [← sy i hi]; exact cl i hi) (by omega)
    have fc : btab N f = btab N c := btab_congr fun j hj => xor_zero_eq (by have := e0 j hj; rw [he] at this; exact this)
    have c0 : cntB (fun j => decide (f j ^^^ c j ≠ 0#8)) N = 0 := by
      unfold cntB
      rw [List.length_eq_zero_iff, List.filter_eq_nil_iff]
      intro j hj
      have := e0 j (List.mem_range.1 hj)
      rw [he] at this
      simp [this]
    repeat' (first
      | ((with_reducible refine TOps.any ?_); refine TOps.callV env (by rfl) (by rfl) (by rfl) (sc) ?_)
      | ((with_reducible refine Tw.retI ?_); refine Tw.frz env 2 (by rfl) (by rfl) (by rfl) ?_ ?_ (Tw.ret ?_))
      | refine GZy_i_y_o (And.intro nl al) ?_ ?_ ?_ ?_ ?_ ?_ ?_ ?_
      | with_reducible first | exact BzZq.mk | refine Tw.ret ?_ | refine ImZq.i fun h => ?_ | refine IkZq.i fun hk => ?_)
    rw [show cut (btab N f) 0 (btab N f).length = btab N f from cut_all rfl, fc, c0]
    exact ⟨rfl, rfl, rfl⟩
  rw [decide_eq_false cl] at sc
  have lc := locate_c N t 0 M e (gK N pl 0) (gK_0 N pl 0) (gK_z N pl 0) (by unfold Due; omega)
  have len := lRun_len (N := N) (M := M) (e := e) (gK_0 N pl 0) (gK_z N pl 0) (fun k => (lRun_ge k).1) (t - 0)
  have rep : ∀ i, i < N → f i ^^^ corr N t (lRun N e M 0 (gK N pl 0) (t - 0)).lc (syn N e) (lRun N e M 0 (gK N pl 0) (t - 0)).C i = c i := fun i hi => by
    rw [he]; exact repaired (M := M) (by omega) (by omega) (by omega) hpl hd hw0 hi
  generalize lRun N e M 0 (gK N pl 0) (t - 0) = s at *
  obtain ⟨q1, q2, q3, q4, q5, q6, q7⟩ := len
  have rp := repair_c N t s.lc f (syn N e) s.C q5 (by unfold Due; omega)
  rw [btab_congr rep] at rp
  have ct : ∀ (m : Nat) (g : Nat → BitVec 8), cut (btab m g) 0 m = btab m g := fun _ _ => cut_tab
  rw [← ct t, ← ct (0 + 1)] at lc
  have sl : (btab t (syn N e)).length = t := btab_len
  have gl : (btab (0 + 1) (gK N pl 0)).length = 0 + 1 := btab_len
  have ll : (btab s.lc s.C).length = s.lc := btab_len
  have h1 : 0 + t ≤ (btab t (syn N e)).length := by omega
  have h2 : 0 + (0 + 1) ≤ (btab (0 + 1) (gK N pl 0)).length := by omega
  repeat' (first
    | ((with_reducible refine TOps.any ?_); refine TOps.callV env (by rfl) (by rfl) (by rfl) (sc) ?_)
    | refine GZy_i_y_o (And.intro nl al) ?_ ?_ ?_ ?_ ?_ ?_ ?_ ?_
    | with_reducible first | exact BzZq.mk | refine Tw.ret ?_ | refine ImZq.i fun h => ?_ | refine IkZq.i fun hk => ?_)
  skip
  repeat' (first
    | ((with_reducible refine TOps.any ?_); refine TOps.callE env (by rfl) (by rfl) (by rfl) ?_ (lc) (by rfl) ?_)
    | exact h1
    | exact h2
    | refine GZp_i_y_o ?_ ?_ ?_ ?_ ?_ ?_ ?_ ?_
    | with_reducible first | exact BzZq.mk | refine Tw.ret ?_ | refine ImZq.i fun h => ?_ | refine IkZq.i fun hk => ?_)
  rw [nl]
  refine TOps.frz env 3 (by rfl) (by rfl) (by rfl) ?_ ?_ ?_
  · repeat' (first
      | refine GZx_i_y_o sl ?_ ?_ ?_ ?_ ?_ ?_ ?_ ?_
      | with_reducible first | exact BzZq.mk | refine Tw.ret ?_ | refine ImZq.i fun h => ?_ | refine IkZq.i fun hk => ?_)
  · repeat' (first
      | refine GZx_i_y_o sl ?_ ?_ ?_ ?_ ?_ ?_ ?_ ?_
      | with_reducible first | exact BzZq.mk | refine Tw.ret ?_ | refine ImZq.i fun h => ?_ | refine IkZq.i fun hk => ?_)
  refine TOps.frz env 4 (by rfl) (by rfl) (by rfl) ?_ ?_ ?_
  · repeat' (first
      | refine GZx_i_y_o ll ?_ ?_ ?_ ?_ ?_ ?_ ?_ ?_
      | with_reducible first | exact BzZq.mk | refine Tw.ret ?_ | refine ImZq.i fun h => ?_ | refine IkZq.i fun hk => ?_)
  · repeat' (first
      | refine GZx_i_y_o ll ?_ ?_ ?_ ?_ ?_ ?_ ?_ ?_
      | with_reducible first | exact BzZq.mk | refine Tw.ret ?_ | refine ImZq.i fun h => ?_ | refine IkZq.i fun hk => ?_)
  rw [ct t, ct s.lc]
  repeat' (first
    | ((with_reducible refine TOps.any ?_); refine TOps.callHE env [2] (rp) (by rfl) (by rfl) (by rfl) (by rfl) (by rfl) (by rfl) (by repeat' (first | exact trivial | refine ⟨rfl, ?_⟩)) ?_)
    | refine GZy_i_y_o nl ?_ ?_ ?_ ?_ ?_ ?_ ?_ ?_
    | with_reducible first | exact BzZq.mk | refine Tw.ret ?_ | refine ImZq.i fun h => ?_ | refine IkZq.i fun hk => ?_)
  refine Tw.loopK [0, 1, 2, 85] (fun i : Nat => i ≤ N) (fun i => N - i)
    (fun i => [(86, .int .i64 i), (10, .sla 1 0 0 N), (14, .sla 1 1 0 N), (84, .sla 1 1 0 N), (17, .int .i64 (cntB (fun j => decide (f j ^^^ c j ≠ 0#8)) i)), (18, .int .i64 (cntB (fun j => decide (f j ^^^ c j ≠ 0#8) && !erK pl 0 j) i))])
    (fun _ => [some (.arr Eo (tab N (erK pl 0))), some (.arr Ey (btab N c))]) ⟨0, by omega, TWk.fcanon env [some 0, some 2] (by rfl) ?_⟩ (fun i hi => ?_)
  · repeat' (first
      | refine GZ_i_y_o ?_ ?_ ?_ ?_ ?_ ?_ ?_ ?_
      | with_reducible first | exact BzZq.mk | refine Tw.ret ?_ | refine ImZq.i fun h => ?_ | refine IkZq.i fun hk => ?_)
    all_goals rfl
  have n1 := cntB_le (fun j => decide (f j ^^^ c j ≠ 0#8)) i
  have n2 := cntB_le (fun j => decide (f j ^^^ c j ≠ 0#8) && !erK pl 0 j) i
  have s1 := cntB_succ (fun j => decide (f j ^^^ c j ≠ 0#8)) i
  have s2 := cntB_succ (fun j => decide (f j ^^^ c j ≠ 0#8) && !erK pl 0 j) i
  rcases Nat.lt_or_ge i N with hi | hi
  · have gf : (btab N f).getD i 0 = by8 (f i) := btab_get hi
    have gc : (btab N c).getD i 0 = by8 (c i) := btab_get hi
    have gE : (tab N (erK pl 0)).getD i false = erK pl 0 i := tab_get hi
    have b1 := by8_bd (f i)
    have b2 := by8_bd (c i)
    by_cases hx : f i ^^^ c i = 0#8
    · have ex : by8 (c i) = by8 (f i) := by rw [xor_zero_eq hx]
      have d1 : decide (f i ^^^ c i ≠ 0#8) = false := by simp [hx]
      rw [d1, if_neg (by simp), Nat.add_zero] at s1
      rw [d1, Bool.false_and, if_neg (by simp), Nat.add_zero] at s2
      repeat' (first
        | refine GZy_i_y_o (And.intro nl (And.intro gf gc)) ?_ ?_ ?_ ?_ ?_ ?_ ?_ ?_
        | with_reducible first | exact BzZq.mk | refine Tw.ret ?_ | refine ImZq.i fun h => ?_ | refine IkZq.i fun hk => ?_)
      refine ⟨i + 1, by omega, by omega, TWk.fcanon env [some 0, some 1] (by rfl) ?_⟩
      rw [s1, s2]
      repeat' (first
        | refine GZ_i_y_o ?_ ?_ ?_ ?_ ?_ ?_ ?_ ?_
        | with_reducible first | exact BzZq.mk | refine Tw.ret ?_ | refine ImZq.i fun h => ?_ | refine IkZq.i fun hk => ?_)
    · have ex : by8 (c i) ≠ by8 (f i) := fun h => hx (by rw [by8_inj h, BitVec.xor_self])
      have d1 : decide (f i ^^^ c i ≠ 0#8) = true := by simp [hx]
      rw [d1, if_pos rfl] at s1
      cases hE : erK pl 0 i with
      | true =>
        rw [d1, hE, if_neg (by simp), Nat.add_zero] at s2
        rw [hE] at gE
        repeat' (first
          | refine GZy_i_y_o (And.intro nl (And.intro gf (And.intro gc (And.intro tl gE)))) ?_ ?_ ?_ ?_ ?_ ?_ ?_ ?_
          | with_reducible first | exact BzZq.mk | refine Tw.ret ?_ | refine ImZq.i fun h => ?_ | refine IkZq.i fun hk => ?_)
        all_goals refine ⟨i + 1, by omega, by omega, TWk.fcanon env [some 0, some 1] (by rfl) ?_⟩
        all_goals rw [s1, s2]
        repeat' (first
          | refine GZ_i_y_o ?_ ?_ ?_ ?_ ?_ ?_ ?_ ?_
          | with_reducible first | exact BzZq.mk | refine Tw.ret ?_ | refine ImZq.i fun h => ?_ | refine IkZq.i fun hk => ?_)
      | false =>
        rw [d1, hE, if_pos (by simp)] at s2
        rw [hE] at gE
        repeat' (first
          | refine GZy_i_y_o (And.intro nl (And.intro gf (And.intro gc (And.intro tl gE)))) ?_ ?_ ?_ ?_ ?_ ?_ ?_ ?_
          | with_reducible first | exact BzZq.mk | refine Tw.ret ?_ | refine ImZq.i fun h => ?_ | refine IkZq.i fun hk => ?_)
        all_goals refine ⟨i + 1, by omega, by omega, TWk.fcanon env [some 0, some 1] (by rfl) ?_⟩
        all_goals rw [s1, s2]
        repeat' (first
          | refine GZ_i_y_o ?_ ?_ ?_ ?_ ?_ ?_ ?_ ?_
          | with_reducible first | exact BzZq.mk | refine Tw.ret ?_ | refine ImZq.i fun h => ?_ | refine IkZq.i fun hk => ?_)
  obtain rfl : N = i := by omega
  have hw1 : 2 * cntB (fun j => decide (f j ^^^ c j ≠ 0#8) && !erK pl 0 j) N + 0 ≤ t := hw0
  have sc2 := synd_r c N t (by unfold Due; omega)
  rw [decide_eq_true hc, ← ct N] at sc2
  have h3 : 0 + N ≤ (btab N c).length := by rw [nl]; omega
  repeat' (first
    | ((with_reducible refine TOps.any ?_); refine TOps.callE env (by rfl) (by rfl) (by rfl) ?_ (sc2) (by rfl) ?_)
    | exact h3
    | ((with_reducible refine Tw.retI ?_); refine Tw.frz env 1 (by rfl) (by rfl) (by rfl) ?_ ?_ (Tw.ret ?_))
    | refine GZy_i_y_o (And.intro nl al) ?_ ?_ ?_ ?_ ?_ ?_ ?_ ?_
    | with_reducible first | exact BzZq.mk | refine Tw.ret ?_ | refine ImZq.i fun h => ?_ | refine IkZq.i fun hk => ?_)
  rw [ct N]
  exact ⟨rfl, rfl, rfl⟩
end Go.Proofs.Ythkilkjngincpaa
