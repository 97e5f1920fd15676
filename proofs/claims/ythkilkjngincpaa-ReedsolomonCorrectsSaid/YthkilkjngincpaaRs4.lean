/- Reed-Solomon: Encode. -/
import Derived.Test.YthkilkjngincpaaRs3
import Derived.Test.YthkilkjngincpaaGo
namespace Go.Proofs.Ythkilkjngincpaa
open Go Go.Lite
set_option linter.unusedVariables false
set_option linter.unusedSimpArgs false
set_option maxRecDepth 100000
set_option maxHeartbeats 4000000
-- @simp rdi rdy

theorem shift_row {j : Nat} {g : Nat → BitVec 8} (hj : 1 ≤ j) {q : List Int} (hq : q = btab j g) :
    q.take 0 ++ (cut q (Int.toNat 1 + 0) (j - Int.toNat 1)).take ((cut q (Int.toNat 1 + 0) (j - Int.toNat 1)).length.min j) ++ q.drop (0 + (cut q (Int.toNat 1 + 0) (j - Int.toNat 1)).length.min j) = btab j fun k => if k + 1 < j then g (k + 1) else g k := by
  have e : cut q (Int.toNat 1 + 0) (j - Int.toNat 1) = (q.drop 1).take (j - 1) := rfl
  have ql : q.length = j := by rw [hq, btab_len]
  have el : ((q.drop 1).take (j - 1)).length = j - 1 := by simp; omega
  rw [e, el, show (j - 1).min j = j - 1 from Nat.min_eq_left (by omega), List.take_of_length_le (l := (q.drop 1).take (j - 1)) (by omega), Nat.zero_add, List.take_zero, List.nil_append]
  refine ext_getD 0 (by rw [List.length_append, el, List.length_drop, btab_len]; omega) fun i hi => ?_
  rw [List.length_append, el, List.length_drop] at hi
  rw [btab_get (by omega)]
  by_cases h : i < j - 1
  · rw [getD_app1 (by omega), getD_sub h, if_pos (by omega), hq, btab_get (by omega), Nat.add_comm]
  · rw [getD_app2 (by omega), el, if_neg (by omega)]
    have : (q.drop (j - 1)).getD (i - (j - 1)) 0 = q.getD (j - 1 + (i - (j - 1))) 0 := by simp [List.getD_eq_getElem?_getD, List.getElem?_drop]
    rw [this, show j - 1 + (i - (j - 1)) = i by omega, hq, btab_get (by omega)]
theorem encode_c (f : Nat → BitVec 8) (n t : Nat) (ht : Due (1 ≤ t ∧ t ≤ 64 ∧ 1 ≤ n ∧ n + t ≤ 255)) : TC R Try.prog reedsolomon_Encode_f [.lst Ey (btab n f), .int .i64 t] []
    (fun v X => v = .tup [.lst Ey (btab (n + t) (word rt t n f)), .int .i64 0] ∧ X = []) := by
  dsimp only [Due] at ht
  have nl : (btab n f).length = n := btab_len
  refine tc0 env reedsolomon_Encode_s (by rfl) ?_
  dsimp only [reedsolomon_Encode_c]
  repeat' (first
    | refine GZy_i_y nl ?_ ?_ ?_ ?_ ?_ ?_ ?_ ?_
    | with_reducible first | exact BzZq.mk | refine Tw.ret ?_ | refine ImZq.i fun h => ?_ | refine IkZq.i fun hk => ?_)
  refine Tw.loopK [0, 1, 28] (fun j : Nat => j ≤ t) (fun j => t - j) (fun j => [(29, .int .i64 j), (6, .sla 1 0 0 (j + 1))]) (fun j => [some (.arr Ey (btab (j + 1) (gco rt j)))])
    ⟨0, by omega, TWk.fcanon env [some 0] (by rfl) ?_⟩ (fun j hj => ?_)
  · repeat' (first
      | with_reducible first | exact Conj.nil | refine Conj.cons rfl ?_ | refine Conj.same ?_ | refine Conj.ask ?_ ?_
      | ((with_reducible refine Due.mk ?_); (first | with_reducible rfl | omega | assumption | decide | ((try simp only [goS] at *) <;> (try intro h) <;> (try intro h') <;> (try simp only [goS] at *) <;> (try simp only [rdi, rdy, Int.toNat_natCast, Nat.add_zero] at *) <;> (try simp only [rng]) <;> (first | assumption | omega)) | (exact due_app0 (by omega)) | (exact due_app (by omega)) | (intros; simp; done) | (intros; simp; omega)))
      | with_reducible refine Due.mk ?_
      | omega)
  have gl : ∀ j, (btab (j + 1) (gco rt j)).length = j + 1 := fun _ => btab_len
  rcases Nat.lt_or_ge j t with hj | hj
  · have rc := root_c j (by unfold Due; omega)
    have tr := times_r (gco rt j) (rt j) j (t + 1) (by unfold Due; omega)
    have e1 : btab (j + 2) (tms (gco rt j) (rt j) (j + 1) 0) = btab (j + 2) (gco rt (j + 1)) := btab_congr fun k _ => tms_gco rt j k
    have e2 : ((t + 1 : Nat) : Int) = (t : Int) + 1 := by omega
    have e3 : cut (btab (j + 1) (gco rt j)) 0 (j + 1) = btab (j + 1) (gco rt j) := cut_tab
    have e4 : cut [by8 (rt j), (1 : Int)] 0 2 = [by8 (rt j), 1] := rfl
    rw [e1, e2, ← e3, ← e4] at tr
    have h1 : 0 + (j + 1) ≤ (btab (j + 1) (gco rt j)).length := by rw [gl]; omega
    repeat' (first
      | ((with_reducible refine TOps.any ?_); refine TOps.callV env (by rfl) (by rfl) (by rfl) (rc) ?_)
      | ((with_reducible refine TOps.any ?_); refine TOps.callE env (by rfl) (by rfl) (by rfl) ?_ (tr) (by rfl) ?_)
      | exact h1
      | refine GZp_i_y ?_ ?_ ?_ ?_ ?_ ?_ ?_ ?_
      | with_reducible first | exact BzZq.mk | refine Tw.ret ?_ | refine ImZq.i fun h => ?_ | refine IkZq.i fun hk => ?_)
    refine ⟨j + 1, by omega, by omega, TWk.fcanon env [some 2] (by rfl) ?_⟩
    repeat' (first
      | with_reducible first | exact Conj.nil | refine Conj.cons rfl ?_ | refine Conj.same ?_ | refine Conj.ask ?_ ?_
      | ((with_reducible refine Due.mk ?_); (first | with_reducible rfl | omega | assumption | decide | ((try simp only [goS] at *) <;> (try intro h) <;> (try intro h') <;> (try simp only [goS] at *) <;> (try simp only [rdi, rdy, Int.toNat_natCast, Nat.add_zero] at *) <;> (try simp only [rng]) <;> (first | assumption | omega)) | (exact due_app0 (by omega)) | (exact due_app (by omega)) | (intros; simp; done) | (intros; simp; omega)))
      | with_reducible refine Due.mk ?_
      | omega)
  obtain rfl : j = t := by omega
  repeat' (first
    | refine GZy_i_y nl ?_ ?_ ?_ ?_ ?_ ?_ ?_ ?_
    | with_reducible first | exact BzZq.mk | refine Tw.ret ?_ | refine ImZq.i fun h => ?_ | refine IkZq.i fun hk => ?_)
  rw [Int.toNat_natCast]
  have rl : ∀ g, (btab j g).length = j := fun _ => btab_len
  refine Tw.loopK [0, 1, 6, 8, 42, 43] (fun m : Nat => m ≤ n) (fun m => n - m) (fun m => [(44, .int .i64 m)]) (fun m => [some (.arr Ey (btab (j + 1) (gco rt j))), some (.arr Ey (btab j (rmd rt j f m)))])
    ⟨0, by omega, TWk.fcanon env [some 0, some 1] (by rfl) ?_⟩ (fun m hm => ?_)
  · repeat' (first
      | exact btab_zero.symm
      | with_reducible first | exact Conj.nil | refine Conj.cons rfl ?_ | refine Conj.same ?_ | refine Conj.ask ?_ ?_
      | ((with_reducible refine Due.mk ?_); (first | with_reducible rfl | omega | assumption | decide | ((try simp only [goS] at *) <;> (try intro h) <;> (try intro h') <;> (try simp only [goS] at *) <;> (try simp only [rdi, rdy, Int.toNat_natCast, Nat.add_zero] at *) <;> (try simp only [rng]) <;> (first | assumption | omega)) | (exact due_app0 (by omega)) | (exact due_app (by omega)) | (intros; simp; done) | (intros; simp; omega)))
      | with_reducible refine Due.mk ?_
      | omega)
  rcases Nat.lt_or_ge m n with hm | hm
  · have fm : (btab n f).getD m 0 = by8 (f m) := btab_get hm
    have r0 : (btab j (rmd rt j f m)).getD 0 0 = by8 (rmd rt j f m 0) := btab_get (by omega)
    have b1 := by8_bd (f m)
    have b2 := by8_bd (rmd rt j f m 0)
    have x1 : bxor (by8 (f m)) (by8 (rmd rt j f m 0)) = by8 (f m ^^^ rmd rt j f m 0) := by8_xor _ _
    have sr := shift_row (j := j) (by omega) (q := btab j (rmd rt j f m)) rfl
    have hs : ((j : Int) - 1).toNat + 0 < ((btab j (rmd rt j f m)).take 0 ++ (cut (btab j (rmd rt j f m)) (Int.toNat 1 + 0) (j - Int.toNat 1)).take ((cut (btab j (rmd rt j f m)) (Int.toNat 1 + 0) (j - Int.toNat 1)).length.min j) ++ (btab j (rmd rt j f m)).drop (0 + (cut (btab j (rmd rt j f m)) (Int.toNat 1 + 0) (j - Int.toNat 1)).length.min j)).length := by
      rw [sr, btab_len]; omega
    repeat' (first
      | exact hs
      | refine GZy_i_y (And.intro nl (And.intro fm (And.intro r0 rl))) ?_ ?_ ?_ ?_ ?_ ?_ ?_ ?_
      | with_reducible first | exact BzZq.mk | refine Tw.ret ?_ | refine ImZq.i fun h => ?_ | refine IkZq.i fun hk => ?_)
    generalize hfb : f m ^^^ rmd rt j f m 0 = fb at *
    refine Tw.loopK [0, 1, 6, 8, 42, 43, 44, 62] (fun k : Nat => k ≤ j) (fun k => j - k) (fun k => [(63, .int .i64 k), (11, .int .u8 (by8 fb))])
      (fun k => [some (.arr Ey (btab (j + 1) (gco rt j))), some (.arr Ey (btab j fun i => (if i + 1 < j then rmd rt j f m (i + 1) else 0#8) ^^^ (if i < k then mulF fb (gco rt j (j - 1 - i)) else 0#8)))])
      ⟨0, by omega, TWk.fcanon env [some 0, some 1] (by rfl) ?_⟩ (fun k hk => ?_)
    · have r1 : (btab j fun i => (if i + 1 < j then rmd rt j f m (i + 1) else 0#8) ^^^ (if i < 0 then mulF fb (gco rt j (j - 1 - i)) else 0#8)) = ((btab j (rmd rt j f m)).take 0 ++ (cut (btab j (rmd rt j f m)) (Int.toNat 1 + 0) (j - Int.toNat 1)).take ((cut (btab j (rmd rt j f m)) (Int.toNat 1 + 0) (j - Int.toNat 1)).length.min j) ++ (btab j (rmd rt j f m)).drop (0 + (cut (btab j (rmd rt j f m)) (Int.toNat 1 + 0) (j - Int.toNat 1)).length.min j)).set (((j : Int) - 1).toNat + 0) 0 := by
        rw [sr, Nat.add_zero, show ((j : Int) - 1).toNat = j - 1 by omega]
        refine (btab_set (g := fun i => (if i + 1 < j then rmd rt j f m (i + 1) else 0#8) ^^^ (if i < 0 then mulF fb (gco rt j (j - 1 - i)) else 0#8)) ?_ fun i hi hne => ?_).symm
        · rw [if_neg (by omega), if_neg (by omega)]; rfl
        · rw [if_neg (show ¬ i < 0 by omega), BitVec.xor_zero, if_pos (by omega), if_pos (by omega)]
      have x2 : by8 fb = bxor ((btab n f).getD (m : Int).toNat 0) ((btab j (rmd rt j f m)).getD (Int.toNat 0 + 0) 0) := by
        rw [Int.toNat_natCast, fm]
        show by8 fb = bxor (by8 (f m)) ((btab j (rmd rt j f m)).getD 0 0)
        rw [r0, x1]
      repeat' (first
        | exact r1
        | exact x2
        | refine GZ_i_y ?_ ?_ ?_ ?_ ?_ ?_ ?_ ?_
        | with_reducible first | exact BzZq.mk | refine Tw.ret ?_ | refine ImZq.i fun h => ?_ | refine IkZq.i fun hk => ?_)
    rcases Nat.lt_or_ge k j with hk | hk
    · have k1 : ((j : Int) - 1 - k).toNat = j - 1 - k := by omega
      have gg : (btab (j + 1) (gco rt j)).getD (j - 1 - k) 0 = by8 (gco rt j (j - 1 - k)) := btab_get (by omega)
      have mc : TC R Try.prog reedsolomon_Mul_f [.int .u8 (by8 fb), .int .u8 ((btab (j + 1) (gco rt j)).getD (((j : Int) - 1 - k).toNat + 0) 0)] [] (fun v X => v = .int .u8 (by8 (mulF fb (gco rt j (j - 1 - k)))) ∧ X = []) := by
        rw [k1]; simp only [Nat.add_zero]; rw [gg]; exact mul_c fb (gco rt j (j - 1 - k))
      have b3 := by8_bd (mulF fb (gco rt j (j - 1 - k)))
      have vg : (btab j fun i => (if i + 1 < j then rmd rt j f m (i + 1) else 0#8) ^^^ (if i < k then mulF fb (gco rt j (j - 1 - i)) else 0#8)).getD k 0 = by8 (if k + 1 < j then rmd rt j f m (k + 1) else 0#8) := by
        rw [btab_get hk, if_neg (show ¬ k < k by omega), BitVec.xor_zero]
      have b4 := by8_bd (if k + 1 < j then rmd rt j f m (k + 1) else 0#8)
      have r1 : (btab j fun i => (if i + 1 < j then rmd rt j f m (i + 1) else 0#8) ^^^ (if i < k then mulF fb (gco rt j (j - 1 - i)) else 0#8)).set ((k : Int).toNat + 0) (bxor ((btab j fun i => (if i + 1 < j then rmd rt j f m (i + 1) else 0#8) ^^^ (if i < k then mulF fb (gco rt j (j - 1 - i)) else 0#8)).getD ((k : Int).toNat + 0) 0) (by8 (mulF fb (gco rt j (j - 1 - k))))) = btab j fun i => (if i + 1 < j then rmd rt j f m (i + 1) else 0#8) ^^^ (if i < k + 1 then mulF fb (gco rt j (j - 1 - i)) else 0#8) := by
        rw [Int.toNat_natCast]; simp only [Nat.add_zero]; rw [vg, by8_xor]
        refine btab_set (by rw [if_pos (show k < k + 1 by omega)]) fun i hi hne => ?_
        congr 1
        by_cases h : i < k
        · rw [if_pos h, if_pos (by omega)]
        · rw [if_neg h, if_neg (by omega)]
      repeat' (first
        | ((with_reducible refine TDr.any ?_); refine TDr.callE env (by first | rfl | assumption) (by rfl) (by rfl) ?_ (mc) (by rfl) (by rfl) ?_)
        | refine GZy_i_y (And.intro rl (And.intro gl (And.intro k1 (And.intro gg vg)))) ?_ ?_ ?_ ?_ ?_ ?_ ?_ ?_
        | with_reducible first | exact BzZq.mk | refine Tw.ret ?_ | refine ImZq.i fun h => ?_ | refine IkZq.i fun hk => ?_)
      refine ⟨k + 1, by omega, by omega, TWk.fcanon env [some 0, some 1] (by rfl) ?_⟩
      repeat' (first
        | exact r1.symm
        | with_reducible first | exact Conj.nil | refine Conj.cons rfl ?_ | refine Conj.same ?_ | refine Conj.ask ?_ ?_
        | ((with_reducible refine Due.mk ?_); (first | with_reducible rfl | omega | assumption | decide | ((try simp only [goS] at *) <;> (try intro h) <;> (try intro h') <;> (try simp only [goS] at *) <;> (try simp only [rdi, rdy, Int.toNat_natCast, Nat.add_zero] at *) <;> (try simp only [rng]) <;> (first | assumption | omega)) | (exact due_app0 (by omega)) | (exact due_app (by omega)) | (intros; simp; done) | (intros; simp; omega)))
        | with_reducible refine Due.mk ?_
        | omega)
    · obtain rfl : k = j := by omega
      have r1 : (btab k (rmd rt k f (m + 1))) = btab k fun i => (if i + 1 < k then rmd rt k f m (i + 1) else 0#8) ^^^ (if i < k then mulF fb (gco rt k (k - 1 - i)) else 0#8) := btab_congr fun i hi => by
        rw [if_pos hi]; simp only [rmd]; rw [hfb]
      repeat' (first
        | refine GZp_i_y ?_ ?_ ?_ ?_ ?_ ?_ ?_ ?_
        | with_reducible first | exact BzZq.mk | refine Tw.ret ?_ | refine ImZq.i fun h => ?_ | refine IkZq.i fun hk => ?_)
      refine ⟨m + 1, by omega, by omega, TWk.fcanon env [some 0, some 1] (by rfl) ?_⟩
      repeat' (first
        | exact r1
        | with_reducible first | exact Conj.nil | refine Conj.cons rfl ?_ | refine Conj.same ?_ | refine Conj.ask ?_ ?_
        | ((with_reducible refine Due.mk ?_); (first | with_reducible rfl | omega | assumption | decide | ((try simp only [goS] at *) <;> (try intro h) <;> (try intro h') <;> (try simp only [goS] at *) <;> (try simp only [rdi, rdy, Int.toNat_natCast, Nat.add_zero] at *) <;> (try simp only [rng]) <;> (first | assumption | omega)) | (exact due_app0 (by omega)) | (exact due_app (by omega)) | (intros; simp; done) | (intros; simp; omega)))
        | with_reducible refine Due.mk ?_
        | omega)
  · obtain rfl : m = n := by omega
    have l1 : (cut (btab j (rmd rt j f m)) 0 j).length = j := by rw [show cut (btab j (rmd rt j f m)) 0 j = btab j (rmd rt j f m) from cut_tab, btab_len]
    have e3 : ((btab m f).length + (cut (btab j (rmd rt j f m)) 0 j).length) * 1 ≤ 140737488355328 ∧ (btab m f).length + (cut (btab j (rmd rt j f m)) 0 j).length ≤ 140737488355328 := by rw [l1, nl]; omega
    have l2 : 0 + j ≤ (btab j (rmd rt j f m)).length := by rw [rl]; omega
    have wl : cut (btab m f) 0 (btab m f).length ++ cut (btab j (rmd rt j f m)) 0 j = btab (m + j) (word rt j m f) := by
      rw [show cut (btab m f) 0 (btab m f).length = btab m f from cut_all rfl, show cut (btab j (rmd rt j f m)) 0 j = btab j (rmd rt j f m) from cut_tab]
      refine ext_getD 0 (by rw [List.length_append, btab_len, btab_len, btab_len]) fun i hi => ?_
      rw [List.length_append, btab_len, btab_len] at hi
      rw [btab_get (by omega)]
      unfold word
      by_cases h : i < m
      · rw [getD_app1 (by rw [btab_len]; exact h), btab_get h, if_pos h]
      · rw [getD_app2 (by rw [btab_len]; omega), btab_len, btab_get (by omega), if_neg h]
    have hle : 0 + ((btab m f).length + (cut (btab j (rmd rt j f m)) 0 j).length) ≤ (cut (btab m f) 0 (btab m f).length ++ cut (btab j (rmd rt j f m)) 0 j).length := by rw [wl, l1, nl, btab_len]; omega
    have fe : cut (cut (btab m f) 0 (btab m f).length ++ cut (btab j (rmd rt j f m)) 0 j) 0 ((btab m f).length + (cut (btab j (rmd rt j f m)) 0 j).length) = btab (m + j) (word rt j m f) := by
      rw [wl, l1, nl]; exact cut_tab
    repeat' (first
      | exact e3
      | exact l2
      | exact hle
      | ((with_reducible refine Tw.retI ?_); refine Tw.frz env 3 (by rfl) (by rfl) (by rfl) ?_ ?_ (Tw.ret ?_))
      | refine GZp_i_y ?_ ?_ ?_ ?_ ?_ ?_ ?_ ?_
      | with_reducible first | exact BzZq.mk | refine Tw.ret ?_ | refine ImZq.i fun h => ?_ | refine IkZq.i fun hk => ?_)
    all_goals first | exact hle | exact ⟨rfl, congrArg (fun l : List Int => (TV.tup [.lst Ey l, .int .i64 0] : TV A)) fe, rfl⟩
end Go.Proofs.Ythkilkjngincpaa
