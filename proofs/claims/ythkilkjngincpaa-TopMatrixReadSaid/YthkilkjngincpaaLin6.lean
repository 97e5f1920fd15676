/- Merged: Lin3 Lin4 Lin5 RMod RInts Lin6. -/
import Derived.Test.YthkilkjngincpaaLin2
import Derived.Test.YthkilkjngincpaaGo
import Derived.Test.YthkilkjngincpaaXTopMatrixRead0
namespace Go.Proofs.Ythkilkjngincpaa
open Go Go.Lite
set_option linter.unusedVariables false
set_option linter.unusedSimpArgs false
set_option maxRecDepth 100000
set_option maxHeartbeats 4000000
-- @simp rdi rdy

theorem evenL_dig {l : List Int} (hd : Dig l) : Dig (evenL l) := fun i hi => by
  unfold evenL at hi ⊢
  split at hi
  · rename_i h
    rw [if_pos h]
    cases i with
    | zero => show (48 : Int) ≤ 48 ∧ (48 : Int) ≤ 57; omega
    | succ i =>
      have := hd i (by simpa using hi)
      simpa using this
  · rename_i h
    rw [if_neg h]; exact hd i hi

theorem digits_c (l : List Int) (hd : Dig l) (hl : 1 ≤ l.length ∧ l.length ≤ 20) :
    TC R Try.prog linear_digits_f [.lst Ei (vals l)] [] (fun v X => v = .tup [.str (strOfNums l), .int .i64 0] ∧ X = []) := by
  have vl := vals_len hl
  have hE := evenL_dig hd
  obtain ⟨E, hEE⟩ : ∃ E, E = evenL l := ⟨_, rfl⟩
  obtain ⟨K, hK⟩ : ∃ K, K = E.length / 2 := ⟨_, rfl⟩
  rw [← hEE] at hE
  refine tc0 env linear_digits_s (by rfl) ?_
  dsimp only [linear_digits_c]
  by_cases ho : l.length % 2 = 1
  · have eE : E = 48 :: l := by rw [hEE]; exact if_pos ho
    have lE : E.length = l.length + 1 := by rw [eE]; rfl
    have eV : vals l = 100 :: pairs E K := by unfold vals; rw [if_pos ho, hK, hEE]; rfl
    rw [eV]
    have g0 : (100 :: pairs E K).getD 0 0 = (100 : Int) := rfl
    have lp : (pairs E K).length = K := pairs_len
    have lp2 : (100 :: pairs E K).length = K + 1 := by rw [List.length_cons, lp]
    have e0 : E.getD 0 0 = 48 := by rw [eE]; rfl
    repeat' (first
      | refine GZy_i_y (And.intro lp lp2) ?_ ?_ ?_ ?_ ?_ ?_ ?_ ?_
      | with_reducible first | exact BzZq.mk | refine Tw.ret ?_ | refine ImZq.i fun h => ?_ | refine IkZq.i fun hk => ?_)
    rw [show List.drop (Int.toNat 1) (100 :: pairs E K) = pairs E K from rfl]
    refine Tw.loopK [2, 3, 4, 14, 15] (fun k : Nat => k ≤ K) (fun k => K - k) (fun k => [(16, .int .i64 k), (5, .sla 1 0 0 (2 * k))])
      (fun k => [some (.arr Ey (E.take (2 * k)))]) ⟨0, by omega, TWk.fcanon env [none] (by rfl) ?_⟩ (fun k hk => ?_)
    · repeat' (first
        | refine GZ_i_y ?_ ?_ ?_ ?_ ?_ ?_ ?_ ?_
        | with_reducible first | exact BzZq.mk | refine Tw.ret ?_ | refine ImZq.i fun h => ?_ | refine IkZq.i fun hk => ?_)
    have lk : (E.take (2 * k)).length = 2 * k := by rw [List.length_take]; omega
    rcases Nat.lt_or_ge k K with hk2 | hk2
    · have a0 := hE (2 * k) (by omega)
      have a1 := hE (2 * k + 1) (by omega)
      have pg := pairs_get (l := E) hk2
      have vb : 0 ≤ (pairs E K).getD k 0 ∧ (pairs E K).getD k 0 ≤ 99 := by omega
      have q1 : quo ((pairs E K).getD k 0) 10 = E.getD (2 * k) 0 - 48 := by rw [quo_nn vb.1, pg]; omega
      have q2 : rem ((pairs E K).getD k 0) 10 = E.getD (2 * k + 1) 0 - 48 := by rw [rem_nn vb.1, pg]; omega
      have u1 : (48 + (E.getD (2 * k) 0 - 48)) % 256 = E.getD (2 * k) 0 := by omega
      have u2 : (48 + (E.getD (2 * k + 1) 0 - 48)) % 256 = E.getD (2 * k + 1) 0 := by omega
      have pn : E.take (2 * (k + 1)) = cut (E.take (2 * k)) 0 (2 * k) ++ cut [(48 + quo ((pairs E K).getD k 0) 10) % 256, (48 + rem ((pairs E K).getD k 0) 10) % 256] 0 2 := by
        rw [cut_all lk.symm, q1, q2, u1, u2, show 2 * (k + 1) = 2 * k + 1 + 1 by omega, List.take_add_one, List.take_add_one, List.getElem?_eq_getElem (by omega), List.getElem?_eq_getElem (by omega), List.append_assoc]
        rw [getD_get 0 (by omega), getD_get 0 (by omega)]; rfl
      have en : 2 * (k + 1) = 2 * k + 2 := by omega
      have r1 : rng .i64 (quo ((pairs E K).getD k 0) 10) := by rw [q1]; exact ⟨by omega, by omega⟩
      have dl : (2 * k + (cut [(48 + quo ((pairs E K).getD k 0) 10) % 256, (48 + rem ((pairs E K).getD k 0) 10) % 256] 0 2).length) * 1 ≤ 140737488355328 ∧ 2 * k + (cut [(48 + quo ((pairs E K).getD k 0) 10) % 256, (48 + rem ((pairs E K).getD k 0) 10) % 256] 0 2).length ≤ 140737488355328 := by
        show (2 * k + 2) * 1 ≤ 140737488355328 ∧ 2 * k + 2 ≤ 140737488355328
        omega
      have b1 : -9223372036854775808 ≤ 48 + quo ((pairs E K).getD k 0) 10 ∧ 48 + quo ((pairs E K).getD k 0) 10 ≤ 9223372036854775807 := by rw [q1]; omega
      have b2 : -9223372036854775808 ≤ 48 + rem ((pairs E K).getD k 0) 10 ∧ 48 + rem ((pairs E K).getD k 0) 10 ≤ 9223372036854775807 := by rw [q2]; omega
      repeat' (first
        | exact r1
        | exact r1.1
        | exact r1.2
        | exact b1
        | exact b2
        | exact dl
        | refine GZy_i_y (And.intro q1 (And.intro q2 (And.intro u1 (And.intro u2 (And.intro lk lp))))) ?_ ?_ ?_ ?_ ?_ ?_ ?_ ?_
        | with_reducible first | exact BzZq.mk | refine Tw.ret ?_ | refine ImZq.i fun h => ?_ | refine IkZq.i fun hk => ?_)
      refine ⟨k + 1, by omega, by omega, TWk.fcanon env [some 2] (by rfl) ?_⟩
      repeat' (first
        | exact en
        | exact pn
        | refine GZ_i_y ?_ ?_ ?_ ?_ ?_ ?_ ?_ ?_
        | with_reducible first | exact BzZq.mk | refine Tw.ret ?_ | refine ImZq.i fun h => ?_ | refine IkZq.i fun hk => ?_)
    · obtain rfl : k = K := by omega
      have tE : E.take (2 * k) = E := List.take_of_length_le (by omega)
      rw [tE] at lk ⊢
      repeat' (first
        | refine GZy_i_y (And.intro lk (And.intro lp e0)) ?_ ?_ ?_ ?_ ?_ ?_ ?_ ?_
        | with_reducible first | exact BzZq.mk | refine Tw.ret ?_ | refine ImZq.i fun h => ?_ | refine IkZq.i fun hk => ?_)
      exact ⟨rfl, congrArg (fun z => TV.tup [TV.str (strOfNums z), TV.int IntKind.i64 0]) (by show (E.drop 1).take (2 * k - 1) = l; rw [eE, List.drop_one, List.tail_cons, List.take_of_length_le (by omega)]), rfl⟩
  · have eE : E = l := by rw [hEE]; exact if_neg ho
    have lE : E.length = l.length := by rw [eE]
    have eV : vals l = pairs E K := by unfold vals; rw [if_neg ho, hK, hEE]; rfl
    rw [eV]
    have lp : (pairs E K).length = K := pairs_len
    have a0 := hE 0 (by omega)
    have a1 := hE 1 (by omega)
    have hK1 : 0 < K := by rw [hK, lE]; omega
    have g0 : (pairs E K).getD 0 0 = 10 * (E.getD (2 * 0) 0 - 48) + (E.getD (2 * 0 + 1) 0 - 48) := pairs_get hK1
    have g1 : ¬ (pairs E K).getD 0 0 = 100 := by
      rw [g0]
      show ¬ 10 * (E.getD 0 0 - 48) + (E.getD 1 0 - 48) = 100
      omega
    repeat' (first
      | refine GZy_i_y lp ?_ ?_ ?_ ?_ ?_ ?_ ?_ ?_
      | with_reducible first | exact BzZq.mk | refine Tw.ret ?_ | refine ImZq.i fun h => ?_ | refine IkZq.i fun hk => ?_)
    refine Tw.loopK [2, 3, 4, 14, 15] (fun k : Nat => k ≤ K) (fun k => K - k) (fun k => [(16, .int .i64 k), (5, .sla 1 0 0 (2 * k))])
      (fun k => [some (.arr Ey (E.take (2 * k)))]) ⟨0, by omega, TWk.fcanon env [none] (by rfl) ?_⟩ (fun k hk => ?_)
    · repeat' (first
        | refine GZ_i_y ?_ ?_ ?_ ?_ ?_ ?_ ?_ ?_
        | with_reducible first | exact BzZq.mk | refine Tw.ret ?_ | refine ImZq.i fun h => ?_ | refine IkZq.i fun hk => ?_)
    have lk : (E.take (2 * k)).length = 2 * k := by rw [List.length_take]; omega
    rcases Nat.lt_or_ge k K with hk2 | hk2
    · have a0 := hE (2 * k) (by omega)
      have a1 := hE (2 * k + 1) (by omega)
      have pg := pairs_get (l := E) hk2
      have vb : 0 ≤ (pairs E K).getD k 0 ∧ (pairs E K).getD k 0 ≤ 99 := by omega
      have q1 : quo ((pairs E K).getD k 0) 10 = E.getD (2 * k) 0 - 48 := by rw [quo_nn vb.1, pg]; omega
      have q2 : rem ((pairs E K).getD k 0) 10 = E.getD (2 * k + 1) 0 - 48 := by rw [rem_nn vb.1, pg]; omega
      have u1 : (48 + (E.getD (2 * k) 0 - 48)) % 256 = E.getD (2 * k) 0 := by omega
      have u2 : (48 + (E.getD (2 * k + 1) 0 - 48)) % 256 = E.getD (2 * k + 1) 0 := by omega
      have pn : E.take (2 * (k + 1)) = cut (E.take (2 * k)) 0 (2 * k) ++ cut [(48 + quo ((pairs E K).getD k 0) 10) % 256, (48 + rem ((pairs E K).getD k 0) 10) % 256] 0 2 := by
        rw [cut_all lk.symm, q1, q2, u1, u2, show 2 * (k + 1) = 2 * k + 1 + 1 by omega, List.take_add_one, List.take_add_one, List.getElem?_eq_getElem (by omega), List.getElem?_eq_getElem (by omega), List.append_assoc]
        rw [getD_get 0 (by omega), getD_get 0 (by omega)]; rfl
      have en : 2 * (k + 1) = 2 * k + 2 := by omega
      have r1 : rng .i64 (quo ((pairs E K).getD k 0) 10) := by rw [q1]; exact ⟨by omega, by omega⟩
      have dl : (2 * k + (cut [(48 + quo ((pairs E K).getD k 0) 10) % 256, (48 + rem ((pairs E K).getD k 0) 10) % 256] 0 2).length) * 1 ≤ 140737488355328 ∧ 2 * k + (cut [(48 + quo ((pairs E K).getD k 0) 10) % 256, (48 + rem ((pairs E K).getD k 0) 10) % 256] 0 2).length ≤ 140737488355328 := by
        show (2 * k + 2) * 1 ≤ 140737488355328 ∧ 2 * k + 2 ≤ 140737488355328
        omega
      have b1 : -9223372036854775808 ≤ 48 + quo ((pairs E K).getD k 0) 10 ∧ 48 + quo ((pairs E K).getD k 0) 10 ≤ 9223372036854775807 := by rw [q1]; omega
      have b2 : -9223372036854775808 ≤ 48 + rem ((pairs E K).getD k 0) 10 ∧ 48 + rem ((pairs E K).getD k 0) 10 ≤ 9223372036854775807 := by rw [q2]; omega
      repeat' (first
        | exact r1
        | exact r1.1
        | exact r1.2
        | exact b1
        | exact b2
        | exact dl
        | refine GZy_i_y (And.intro q1 (And.intro q2 (And.intro u1 (And.intro u2 (And.intro lk lp))))) ?_ ?_ ?_ ?_ ?_ ?_ ?_ ?_
        | with_reducible first | exact BzZq.mk | refine Tw.ret ?_ | refine ImZq.i fun h => ?_ | refine IkZq.i fun hk => ?_)
      refine ⟨k + 1, by omega, by omega, TWk.fcanon env [some 2] (by rfl) ?_⟩
      repeat' (first
        | exact en
        | exact pn
        | refine GZ_i_y ?_ ?_ ?_ ?_ ?_ ?_ ?_ ?_
        | with_reducible first | exact BzZq.mk | refine Tw.ret ?_ | refine ImZq.i fun h => ?_ | refine IkZq.i fun hk => ?_)
    · obtain rfl : k = K := by omega
      have tE : E.take (2 * k) = E := List.take_of_length_le (by omega)
      rw [tE] at lk ⊢
      repeat' (first
        | refine GZy_i_y (And.intro lk lp) ?_ ?_ ?_ ?_ ?_ ?_ ?_ ?_
        | with_reducible first | exact BzZq.mk | refine Tw.ret ?_ | refine ImZq.i fun h => ?_ | refine IkZq.i fun hk => ?_)
      exact ⟨rfl, congrArg (fun z => TV.tup [TV.str (strOfNums z), TV.int IntKind.i64 0]) (by show E.take (2 * k) = l; rw [← eE]; exact List.take_of_length_le (by omega)), rfl⟩
end Go.Proofs.Ythkilkjngincpaa
namespace Go.Proofs.Ythkilkjngincpaa
open Go Go.Lite
set_option linter.unusedVariables false
set_option linter.unusedSimpArgs false
set_option maxRecDepth 100000
set_option maxHeartbeats 4000000
-- @simp rdi rdy

/-- Widths that can be read: m groups of six and a last one. -/
structure WdOk (w : List Int) (m : Nat) : Prop where
  m4 : 4 ≤ m ∧ m ≤ 14
  len : w.length = 6 * m + 1
  bd : ∀ i, i < w.length → 1 ≤ w.getD i 0 ∧ w.getD i 0 ≤ 1024
def gr (w : List Int) (i : Nat) : Int := valW (w.drop (6 * i))

theorem decode_ok (W : List Int) (m : Nat) (G : Nat → Int) (hW : WdOk W m) (hG : ∀ i, i < m → gr W i = G i) (hG0 : ∀ i, i < m → 0 ≤ G i ∧ G i ≤ 102) (hs : G 0 = 101) (he : G (m - 1) = 102) (V l : List Int) (hV : V = tab (m - 3) fun i => G (i + 1)) (hc : lchk V = G (m - 2)) (hd : Dig l) (hl2 : 1 ≤ l.length ∧ l.length ≤ 20) (hvl : V = vals l) :
    TC R Try.prog linear_Decode_f [.lst Ei W] [] (fun v X => v = .tup [.str (strOfNums l), .int .i64 0] ∧ X = []) := by
  have hm := hW.m4
  have hl := hW.len
  have hw := hW.bd
  have v0 := value_c W (by omega) hW.bd
  have e0 : valW W = 101 := (hG 0 (by omega)).trans hs
  rw [e0] at v0
  have q6 : rem (W.length : Int) 6 = 1 := by rw [rem_nn (by omega)]; omega
  have sc := sum_c V (fun i hi => by
    rw [hV, tab_len] at hi
    rw [hV, tab_get hi]
    have := hG0 (i + 1) (by omega)
    omega) (by rw [hV, tab_len]; omega)
  have dc := digits_c l hd hl2
  rw [← hvl] at dc
  refine tc0 env linear_Decode_s (by rfl) ?_
  dsimp only [linear_Decode_c]
  repeat' (first
    | refine GZy_i_y q6 ?_ ?_ ?_ ?_ ?_ ?_ ?_ ?_
    | with_reducible first | exact BzZq.mk | refine Tw.ret ?_ | refine ImZq.i fun h => ?_ | refine IkZq.i fun hk => ?_)
  refine Tw.loopK [0, 2, 3, 4, 23, 24] (fun i : Nat => i ≤ W.length) (fun i => W.length - i) (fun i => [(25, .int .i64 i)])
    (fun _ => []) ⟨0, by omega, TWk.fcanon env [] (by rfl) ?_⟩ (fun i hi => ?_)
  · repeat' (first
      | refine GZ_i_y ?_ ?_ ?_ ?_ ?_ ?_ ?_ ?_
      | with_reducible first | exact BzZq.mk | refine Tw.ret ?_ | refine ImZq.i fun h => ?_ | refine IkZq.i fun hk => ?_)
  rcases Nat.lt_or_ge i W.length with hi2 | hi2
  · have b := hw i hi2
    repeat' (first
      | refine GZp_i_y ?_ ?_ ?_ ?_ ?_ ?_ ?_ ?_
      | with_reducible first | exact BzZq.mk | refine Tw.ret ?_ | refine ImZq.i fun h => ?_ | refine IkZq.i fun hk => ?_)
    refine ⟨i + 1, by omega, by omega, TWk.fcanon env [] (by rfl) ?_⟩
    repeat' (first
      | refine GZ_i_y ?_ ?_ ?_ ?_ ?_ ?_ ?_ ?_
      | with_reducible first | exact BzZq.mk | refine Tw.ret ?_ | refine ImZq.i fun h => ?_ | refine IkZq.i fun hk => ?_)
  obtain rfl : i = W.length := by omega
  repeat' (first
    | ((with_reducible refine TOps.any ?_); refine TOps.callV env (by rfl) (by rfl) (by rfl) (patterns_c) ?_)
    | ((with_reducible refine TOps.any ?_); refine TOps.callV env (by rfl) (by rfl) (by rfl) (v0) ?_)
    | refine GZp_i_y ?_ ?_ ?_ ?_ ?_ ?_ ?_ ?_
    | with_reducible first | exact BzZq.mk | refine Tw.ret ?_ | refine ImZq.i fun h => ?_ | refine IkZq.i fun hk => ?_)
  refine Tw.loopK [2, 3, 7] (fun j : Nat => j ≤ m) (fun j => m - j) (fun j => [(0, .lst Ei (W.drop (6 * j))), (11, .sla 1 0 0 j)])
    (fun j => [some (.arr Ei (tab j G))]) ⟨0, by omega, TWk.fcanon env [none] (by rfl) ?_⟩ (fun j hj => ?_)
  · repeat' (first
      | refine GZ_i_y ?_ ?_ ?_ ?_ ?_ ?_ ?_ ?_
      | with_reducible first | exact BzZq.mk | refine Tw.ret ?_ | refine ImZq.i fun h => ?_ | refine IkZq.i fun hk => ?_)
  have lj : (W.drop (6 * j)).length = 6 * (m - j) + 1 := by rw [List.length_drop, hW.len]; omega
  have lt : (tab j G).length = j := tab_len
  rcases Nat.lt_or_ge j m with hj2 | hj2
  · have vc := value_c (W.drop (6 * j)) (by omega) (fun i hi => by
      rw [lj] at hi
      have := hW.bd (6 * j + i) (by rw [hW.len]; omega)
      rw [List.getD_eq_getElem?_getD, List.getElem?_drop, ← List.getD_eq_getElem?_getD]; exact this)
    rw [show valW (W.drop (6 * j)) = G j from hG j hj2] at vc
    have g0 := hG0 j hj2
    have dn : W.drop (6 * (j + 1)) = List.drop (Int.toNat 6) (W.drop (6 * j)) := by rw [List.drop_drop]; rfl
    have tn : tab (j + 1) G = cut (tab j G) 0 j ++ cut [G j] 0 1 := by rw [cut_tab, cut_one, tab_succ]
    repeat' (first
      | ((with_reducible refine TOps.any ?_); refine TOps.callV env (by rfl) (by rfl) (by rfl) (vc) ?_)
      | refine GZy_i_y (And.intro lj lt) ?_ ?_ ?_ ?_ ?_ ?_ ?_ ?_
      | with_reducible first | exact BzZq.mk | refine Tw.ret ?_ | refine ImZq.i fun h => ?_ | refine IkZq.i fun hk => ?_)
    refine ⟨j + 1, by omega, by omega, TWk.fcanon env [some 2] (by rfl) ?_⟩
    repeat' (first
      | exact dn
      | exact tn
      | refine GZ_i_y ?_ ?_ ?_ ?_ ?_ ?_ ?_ ?_
      | with_reducible first | exact BzZq.mk | refine Tw.ret ?_ | refine ImZq.i fun h => ?_ | refine IkZq.i fun hk => ?_)
  · obtain rfl : j = m := by omega
    have t0 : (tab j G).getD 0 0 = 101 := by rw [tab_get (by omega)]; exact hs
    have t1 : (tab j G).getD (j - 1) 0 = 102 := by rw [tab_get (by omega)]; exact he
    have t2 : (tab j G).getD (j - 2) 0 = G (j - 2) := tab_get (by omega)
    have i1 : ((j : Int) - 1).toNat = j - 1 := by omega
    have i2 : ((j : Int) - 2).toNat = j - 2 := by omega
    have cV : cut (tab j G) (Int.toNat 1 + 0) (((j : Int) - 2).toNat - Int.toNat 1) = V := by
      rw [i2, cut_eq, hV]
      have e1 : j - 2 - Int.toNat 1 = j - 3 := by show j - 2 - 1 = j - 3; omega
      rw [e1]
      refine is_tab 0 (by rw [List.length_take, List.length_drop, lt]; show min (j - 3) (j - 1) = j - 3; omega) fun i hi => ?_
      rw [getD_sub hi, tab_get (by show 1 + i < j; omega)]
      exact congrArg G (by show 1 + i = i + 1; omega)
    repeat' (first
      | refine GZy_i_y (And.intro lj (And.intro lt (And.intro t0 (And.intro t1 (And.intro i1 i2))))) ?_ ?_ ?_ ?_ ?_ ?_ ?_ ?_
      | with_reducible first | exact BzZq.mk | refine Tw.ret ?_ | refine ImZq.i fun h => ?_ | refine IkZq.i fun hk => ?_)
    refine TOps.frz env 0 (by rfl) (by rfl) (by rfl) ?_ ?_ ?_
    · repeat' (first
        | refine GZx_i_y (And.intro lt (And.intro i1 i2)) ?_ ?_ ?_ ?_ ?_ ?_ ?_ ?_
        | with_reducible first | exact BzZq.mk | refine Tw.ret ?_ | refine ImZq.i fun h => ?_ | refine IkZq.i fun hk => ?_)
    · repeat' (first
        | refine GZx_i_y (And.intro lt (And.intro i1 i2)) ?_ ?_ ?_ ?_ ?_ ?_ ?_ ?_
        | with_reducible first | exact BzZq.mk | refine Tw.ret ?_ | refine ImZq.i fun h => ?_ | refine IkZq.i fun hk => ?_)
    rw [cV]
    repeat' (first
      | ((with_reducible refine TOps.any ?_); refine TOps.callV env (by rfl) (by rfl) (by rfl) (sc) ?_)
      | ((with_reducible refine TOps.any ?_); refine TOps.callV env (by rfl) (by rfl) (by rfl) (dc) ?_)
      | refine GZy_i_y (And.intro lt (And.intro t0 (And.intro t1 (And.intro i1 (And.intro i2 t2))))) ?_ ?_ ?_ ?_ ?_ ?_ ?_ ?_
      | with_reducible first | exact BzZq.mk | refine Tw.ret ?_ | refine ImZq.i fun h => ?_ | refine IkZq.i fun hk => ?_)
    exact ⟨rfl, rfl, rfl⟩

end Go.Proofs.Ythkilkjngincpaa
namespace Go.Proofs.Ythkilkjngincpaa
open Go Go.Lite
set_option linter.unusedVariables false
set_option linter.unusedSimpArgs false
set_option maxRecDepth 100000
set_option maxHeartbeats 4000000

theorem near_scale {x T s : Int} (hs : 0 < s) : near (11 * (x * s)) (T * s) = near (11 * x) T := by
  unfold near
  rw [show 2 * (11 * (x * s)) + T * s = (2 * (11 * x) + T) * s by grind, show 2 * (T * s) = (2 * T) * s by grind]
  exact Int.mul_ediv_mul_of_pos_left _ _ hs
theorem find_congr {e f : Nat → Int} (h0 : e 0 = f 0) (h1 : e 1 = f 1) (h2 : e 2 = f 2) (h3 : e 3 = f 3) : ∀ (l : List W6) (k : Nat), findW e l k = findW f l k
  | [], _ => rfl
  | a :: r, k => by
    have : fits a e = fits a f := by unfold fits; rw [h0, h1, h2, h3]
    simp only [findW, this, find_congr h0 h1 h2 h3 r (k + 1)]
/-- The edges of six widths, by their sum. -/
def edP (a : W6) (T : Int) (i : Nat) : Int := match i with
  | 0 => near (11 * (a.1 + a.2.1)) T
  | 1 => near (11 * (a.2.1 + a.2.2.1)) T
  | 2 => near (11 * (a.2.2.1 + a.2.2.2.1)) T
  | _ => near (11 * (a.2.2.2.1 + a.2.2.2.2.1)) T
def sumP (a : W6) : Int := a.1 + a.2.1 + a.2.2.1 + a.2.2.2.1 + a.2.2.2.2.1 + a.2.2.2.2.2
theorem val_scale {w : List Int} {a : W6} {s : Int} (hs : 0 < s) (h0 : w.getD 0 0 + w.getD 1 0 = (a.1 + a.2.1) * s) (h1 : w.getD 1 0 + w.getD 2 0 = (a.2.1 + a.2.2.1) * s) (h2 : w.getD 2 0 + w.getD 3 0 = (a.2.2.1 + a.2.2.2.1) * s)
    (h3 : w.getD 3 0 + w.getD 4 0 = (a.2.2.2.1 + a.2.2.2.2.1) * s) (h4 : w.getD 4 0 + w.getD 5 0 = (a.2.2.2.2.1 + a.2.2.2.2.2) * s) : valW w = findW (edP a (sumP a)) TB 0 := by
  have ht : w.getD 0 0 + w.getD 1 0 + w.getD 2 0 + w.getD 3 0 + w.getD 4 0 + w.getD 5 0 = sumP a * s := by
    unfold sumP
    rw [show w.getD 0 0 + w.getD 1 0 + w.getD 2 0 + w.getD 3 0 + w.getD 4 0 + w.getD 5 0 = (w.getD 0 0 + w.getD 1 0) + (w.getD 2 0 + w.getD 3 0) + (w.getD 4 0 + w.getD 5 0) by omega, h0, h2, h4]
    grind
  refine find_congr ?_ ?_ ?_ ?_ _ _
  · show near (11 * (w.getD 0 0 + w.getD 1 0)) _ = near _ _
    rw [ht, h0]; exact near_scale hs
  · show near (11 * (w.getD 1 0 + w.getD 2 0)) _ = near _ _
    rw [ht, h1]; exact near_scale hs
  · show near (11 * (w.getD 2 0 + w.getD 3 0)) _ = near _ _
    rw [ht, h2]; exact near_scale hs
  · show near (11 * (w.getD 3 0 + w.getD 4 0)) _ = near _ _
    rw [ht, h3]; exact near_scale hs
theorem pat_find : ∀ v : Nat, v < 103 → findW (edP (TB.getD v (R.d E6i)) (sumP (TB.getD v (R.d E6i)))) TB 0 = (v : Int) := by decide +kernel
theorem pat_rng : ∀ v : Nat, v < 103 → ∀ k, k < 6 → 1 ≤ (pat (v : Int)).getD k 0 ∧ (pat (v : Int)).getD k 0 ≤ 4 := by decide +kernel
/-- Groups of six, in any unit, bars wider and spaces narrower. -/
def Grp (w : List Int) (m : Nat) (G : Nat → Int) (s g : Int) : Prop := ∀ i, i < m → ∀ k, k < 6 → w.getD (6 * i + k) 0 = (pat (G i)).getD k 0 * s + (if k % 2 = 0 then g else -g)
theorem drop_get {w : List Int} {n k : Nat} : (w.drop n).getD k 0 = w.getD (n + k) 0 := by
  rw [List.getD_eq_getElem?_getD, List.getElem?_drop, ← List.getD_eq_getElem?_getD]
theorem grp_val {w : List Int} {m : Nat} {G : Nat → Int} {s g : Int} (hs : 0 < s) (h : Grp w m G s g) (hG : ∀ i, i < m → 0 ≤ G i ∧ G i ≤ 102) {i : Nat} (hi : i < m) : gr w i = G i := by
  obtain ⟨v, hv⟩ : ∃ v : Nat, G i = v := ⟨(G i).toNat, by have := hG i hi; omega⟩
  have hv3 : v < 103 := by have := hG i hi; omega
  have k0 := h i hi 0 (by omega)
  have k1 := h i hi 1 (by omega)
  have k2 := h i hi 2 (by omega)
  have k3 := h i hi 3 (by omega)
  have k4 := h i hi 4 (by omega)
  have k5 := h i hi 5 (by omega)
  rw [if_pos (by decide)] at k0 k2 k4
  rw [if_neg (by decide)] at k1 k3 k5
  rw [hv] at k0 k1 k2 k3 k4 k5 ⊢
  unfold gr
  rw [← pat_find v hv3]
  obtain ⟨a, ha⟩ : ∃ a, a = TB.getD v (R.d E6i) := ⟨_, rfl⟩
  have p0 : (pat (v : Int)).getD 0 0 = a.1 := by rw [ha]; rfl
  have p1 : (pat (v : Int)).getD 1 0 = a.2.1 := by rw [ha]; rfl
  have p2 : (pat (v : Int)).getD 2 0 = a.2.2.1 := by rw [ha]; rfl
  have p3 : (pat (v : Int)).getD 3 0 = a.2.2.2.1 := by rw [ha]; rfl
  have p4 : (pat (v : Int)).getD 4 0 = a.2.2.2.2.1 := by rw [ha]; rfl
  have p5 : (pat (v : Int)).getD 5 0 = a.2.2.2.2.2 := by rw [ha]; rfl
  rw [p0] at k0; rw [p1] at k1; rw [p2] at k2; rw [p3] at k3; rw [p4] at k4; rw [p5] at k5
  rw [← ha]
  refine val_scale hs ?_ ?_ ?_ ?_ ?_ <;> simp only [drop_get] <;> grind

theorem patsL_get {Z : List Int} : ∀ {n i k : Nat}, i < n → k < 6 → (patsL Z n).getD (6 * i + k) 0 = (pat (Z.getD i 0)).getD k 0
  | n + 1, i, k, hi, hk => by
    simp only [patsL]
    rcases Nat.lt_or_ge i n with h | h
    · rw [getD_app1 (by rw [patsL_len]; omega)]; exact patsL_get h hk
    · obtain rfl : i = n := by omega
      rw [getD_app2 (by rw [patsL_len]; omega), patsL_len, Nat.add_sub_cancel_left]

/-- The values of a text, with start, check and stop. -/
def GV (l : List Int) (i : Nat) : Int := if i = 0 then 101 else (vals l ++ [lchk (vals l)] ++ [102]).getD (i - 1) 0
theorem GV_vals {l : List Int} {i : Nat} (hi : i < (vals l).length) : GV l (i + 1) = (vals l).getD i 0 := by
  unfold GV
  rw [if_neg (by omega), Nat.add_sub_cancel, getD_app1 (by rw [List.length_append]; omega), getD_app1 hi]
theorem GV_chk {l : List Int} : GV l ((vals l).length + 1) = lchk (vals l) := by
  unfold GV
  rw [if_neg (by omega), Nat.add_sub_cancel, getD_app1 (by rw [List.length_append]; simp), getD_app2 (Nat.le_refl _), Nat.sub_self]; rfl
theorem GV_stop {l : List Int} : GV l ((vals l).length + 2) = 102 := by
  unfold GV
  rw [if_neg (by omega), getD_app2 (by rw [List.length_append]; simp), List.length_append]
  simp
theorem GV_bd {l : List Int} (hd : Dig l) {i : Nat} (hi : i < (vals l).length + 3) : 0 ≤ GV l i ∧ GV l i ≤ 102 := by
  have hc := chk_bd (vals l)
  rcases Nat.eq_zero_or_pos i with h | h
  · subst h; unfold GV; rw [if_pos rfl]; omega
  · rcases Nat.lt_or_ge i ((vals l).length + 1) with h1 | h1
    · obtain ⟨j, rfl⟩ : ∃ j, i = j + 1 := ⟨i - 1, by omega⟩
      rw [GV_vals (by omega)]
      have := vals_bd hd j (by omega)
      omega
    · have : i = (vals l).length + 1 ∨ i = (vals l).length + 2 := by omega
      rcases this with rfl | rfl
      · rw [GV_chk]; omega
      · rw [GV_stop]; omega
theorem code_len {l : List Int} : (code l).length = 6 * ((vals l).length + 3) + 1 := by
  unfold code
  rw [List.length_append, List.length_append, patsL_len, pat_len, List.length_append, List.length_append]
  simp only [List.length_cons, List.length_nil]
  omega
theorem code_get {l : List Int} {i k : Nat} (hi : i < (vals l).length + 3) (hk : k < 6) : (code l).getD (6 * i + k) 0 = (pat (GV l i)).getD k 0 := by
  unfold code
  have ln : (vals l ++ [lchk (vals l)] ++ [102]).length = (vals l).length + 2 := by simp
  rw [getD_app1 (by rw [List.length_append, patsL_len, pat_len, ln]; omega)]
  rcases Nat.eq_zero_or_pos i with h | h
  · subst h
    rw [Nat.mul_zero, Nat.zero_add, getD_app1 (by rw [pat_len]; exact hk)]; rfl
  · obtain ⟨j, rfl⟩ : ∃ j, i = j + 1 := ⟨i - 1, by omega⟩
    rw [getD_app2 (by rw [pat_len]; omega), pat_len, show 6 * (j + 1) + k - 6 = 6 * j + k by omega, patsL_get (by rw [ln]; omega) hk]
    unfold GV
    rw [if_neg (by omega), Nat.add_sub_cancel]
theorem code_last {l : List Int} : (code l).getD (6 * ((vals l).length + 3)) 0 = 2 := by
  unfold code
  have ln : (vals l ++ [lchk (vals l)] ++ [102]).length = (vals l).length + 2 := by simp
  rw [getD_app2 (by rw [List.length_append, patsL_len, pat_len, ln]; omega), List.length_append, patsL_len, pat_len, ln]
  rw [show 6 * ((vals l).length + 3) - (6 + 6 * ((vals l).length + 2)) = 0 by omega]; rfl
theorem code_bd {l : List Int} (hd : Dig l) (i : Nat) (hi : i < (code l).length) : 1 ≤ (code l).getD i 0 ∧ (code l).getD i 0 ≤ 4 := by
  rw [code_len] at hi
  rcases Nat.lt_or_ge i (6 * ((vals l).length + 3)) with h | h
  · have hg := GV_bd hd (i := i / 6) (by omega)
    have hc := code_get (l := l) (i := i / 6) (k := i % 6) (by omega) (by omega)
    rw [show 6 * (i / 6) + i % 6 = i by omega] at hc
    rw [hc]
    obtain ⟨v, hv⟩ : ∃ v : Nat, GV l (i / 6) = v := ⟨(GV l (i / 6)).toNat, by omega⟩
    rw [hv]
    exact pat_rng v (by omega) _ (by omega)
  · obtain rfl : i = 6 * ((vals l).length + 3) := by omega
    rw [code_last]; omega
end Go.Proofs.Ythkilkjngincpaa
namespace Go.Proofs.Ythkilkjngincpaa
open Go Go.Lite
set_option linter.unusedVariables false
set_option linter.unusedSimpArgs false
set_option maxRecDepth 100000
set_option maxHeartbeats 4000000

end Go.Proofs.Ythkilkjngincpaa
namespace Go.Proofs.Ythkilkjngincpaa
open Go Go.Lite
set_option linter.unusedVariables false
set_option linter.unusedSimpArgs false
set_option maxRecDepth 100000
set_option maxHeartbeats 4000000
-- @simp rdi

end Go.Proofs.Ythkilkjngincpaa
namespace Go.Proofs.Ythkilkjngincpaa
open Go Go.Lite
set_option linter.unusedVariables false
set_option linter.unusedSimpArgs false
set_option maxRecDepth 100000
set_option maxHeartbeats 4000000
-- @simp rdi rdy

theorem wd_of {l w : List Int} (hl : 1 ≤ l.length ∧ l.length ≤ 20) (hlen : w.length = 6 * ((vals l).length + 3) + 1) (hb : ∀ i, i < w.length → 1 ≤ w.getD i 0 ∧ w.getD i 0 ≤ 1024) : WdOk w ((vals l).length + 3) :=
  ⟨by have := vals_len hl; omega, hlen, hb⟩
theorem vals_tab {l : List Int} : vals l = tab ((vals l).length + 3 - 3) fun i => GV l (i + 1) :=
  is_tab 0 (by omega) fun i hi => by rw [GV_vals (by omega)]
theorem read_ok (l : List Int) (hd : Dig l) (hl : 1 ≤ l.length ∧ l.length ≤ 20) (w : List Int) (s g : Int) (hs : 0 < s) (hg : Grp w ((vals l).length + 3) (GV l) s g) (hlen : w.length = 6 * ((vals l).length + 3) + 1) (hb : ∀ i, i < w.length → 1 ≤ w.getD i 0 ∧ w.getD i 0 ≤ 1024) :
    TC R Try.prog linear_Decode_f [.lst Ei w] [] (fun v X => v = .tup [.str (strOfNums l), .int .i64 0] ∧ X = []) :=
  decode_ok w _ (GV l) (wd_of hl hlen hb) (fun i hi => grp_val hs hg (fun i hi => GV_bd hd hi) hi) (fun i hi => GV_bd hd hi) rfl GV_stop (vals l) l vals_tab GV_chk.symm hd hl rfl
end Go.Proofs.Ythkilkjngincpaa
