/- Merged: Rs3 Rs4 Bm Bits1. -/
import Derived.Test.YthkilkjngincpaaRs2
import Derived.Test.YthkilkjngincpaaGo
import Derived.Test.YthkilkjngincpaaXMatrixReturns0
namespace Go.Proofs.Ythkilkjngincpaa
open Go Go.Lite
set_option linter.unusedVariables false
set_option linter.unusedSimpArgs false
set_option maxRecDepth 100000
set_option maxHeartbeats 4000000
-- @simp rdi rdy

theorem synd_r (f : Nat → BitVec 8) (n t : Nat) (ht : Due (t ≤ 64 ∧ n ≤ 255)) : TC R Try.prog reedsolomon_syndromes_f [.lst Ey (btab n f), .int .i64 t] []
    (fun v X => v = .tup [.sla 1 0 0 t, .bool (decide (∀ i, i < t → hor (rt i) f n = 0#8))] ∧ X = [some (.arr Ey (btab t fun i => hor (rt i) f n))]) := by
  dsimp only [Due] at ht
  have nl : (btab n f).length = n := btab_len
  refine tc env reedsolomon_syndromes_s (by rfl) ?_
  dsimp only [reedsolomon_syndromes_c]
  repeat' (first
    | refine GZy_i_y nl ?_ ?_ ?_ ?_ ?_ ?_ ?_ ?_
    | with_reducible first | exact BzZq.mk | refine Tw.ret ?_ | refine ImZq.i fun h => ?_ | refine IkZq.i fun hk => ?_)
  rw [Int.toNat_natCast]
  have fl : ∀ g, (btab t g).length = t := fun _ => btab_len
  refine Tw.loopK [0, 1, 6, 16] (fun q : Nat × Bool => q.1 ≤ t ∧ (q.2 = true ↔ ∀ i, i < q.1 → hor (rt i) f n = 0#8)) (fun q => t - q.1) (fun q => [(17, .int .i64 q.1), (7, .bool q.2)]) (fun q => [some (.arr Ey (btab t fun i => if i < q.1 then hor (rt i) f n else 0#8))])
    ⟨(0, true), ⟨by dsimp only; omega, ⟨fun _ i hi => by dsimp only at hi; omega, fun _ => rfl⟩⟩, TWk.fcanon env [some 0] (by rfl) ?_⟩ (fun q hq => ?_)
  · have z : (btab t fun i => if i < 0 then hor (rt i) f n else 0#8) = List.replicate t 0 := by
      rw [btab_zero]
      exact btab_congr fun k _ => if_neg (by omega)
    repeat' (first
      | exact z
      | refine GZ_i_y ?_ ?_ ?_ ?_ ?_ ?_ ?_ ?_
      | with_reducible first | exact BzZq.mk | refine Tw.ret ?_ | refine ImZq.i fun h => ?_ | refine IkZq.i fun hk => ?_)
  obtain ⟨i, b⟩ := q
  dsimp only at hq ⊢
  obtain ⟨hi, hb⟩ := hq
  rcases Nat.lt_or_ge i t with hi | hi
  · have rc := root_c i (by unfold Due; omega)
    repeat' (first
      | ((with_reducible refine TOps.any ?_); refine TOps.callV env (by rfl) (by rfl) (by rfl) (rc) ?_)
      | refine GZy_i_y nl ?_ ?_ ?_ ?_ ?_ ?_ ?_ ?_
      | with_reducible first | exact BzZq.mk | refine Tw.ret ?_ | refine ImZq.i fun h => ?_ | refine IkZq.i fun hk => ?_)
    refine Tw.loopK [0, 1, 6, 7, 8, 9, 16, 17, 22, 23] (fun k : Nat => k ≤ n) (fun k => n - k) (fun k => [(24, .int .i64 k), (10, .int .u8 (by8 (hor (rt i) f k)))]) (fun _ => [some (.arr Ey (btab t fun i' => if i' < i then hor (rt i') f n else 0#8))])
      ⟨0, by omega, TWk.fcanon env [some 0] (by rfl) ?_⟩ (fun k hk => ?_)
    · repeat' (first
        | with_reducible first | exact Conj.nil | refine Conj.cons rfl ?_ | refine Conj.same ?_ | refine Conj.ask ?_ ?_
        | ((with_reducible refine Due.mk ?_); (first | with_reducible rfl | omega | assumption | decide | ((try simp only [goS] at *) <;> (try intro h) <;> (try intro h') <;> (try simp only [goS] at *) <;> (try simp only [rdi, rdy, Int.toNat_natCast, Nat.add_zero] at *) <;> (try simp only [rng]) <;> (first | assumption | omega)) | (exact due_app0 (by omega)) | (exact due_app (by omega)) | (intros; simp; done) | (intros; simp; omega)))
        | with_reducible refine Due.mk ?_
        | omega)
    rcases Nat.lt_or_ge k n with hk | hk
    · have gk : (btab n f).getD k 0 = by8 (f k) := btab_get hk
      have mc := mul_c (hor (rt i) f k) (rt i)
      have b1 := by8_bd (mulF (hor (rt i) f k) (rt i))
      have b2 := by8_bd (f k)
      have e1 : by8 (hor (rt i) f (k + 1)) = bxor (by8 (mulF (hor (rt i) f k) (rt i))) ((btab n f).getD (k : Int).toNat 0) := by
        rw [Int.toNat_natCast, gk, by8_xor]; rfl
      repeat' (first
        | ((with_reducible refine TOps.any ?_); refine TOps.callV env (by rfl) (by rfl) (by rfl) (mc) ?_)
        | refine GZy_i_y (And.intro nl gk) ?_ ?_ ?_ ?_ ?_ ?_ ?_ ?_
        | with_reducible first | exact BzZq.mk | refine Tw.ret ?_ | refine ImZq.i fun h => ?_ | refine IkZq.i fun hk => ?_)
      refine ⟨k + 1, by omega, by omega, TWk.fcanon env [some 0] (by rfl) ?_⟩
      repeat' (first
        | exact e1
        | with_reducible first | exact Conj.nil | refine Conj.cons rfl ?_ | refine Conj.same ?_ | refine Conj.ask ?_ ?_
        | ((with_reducible refine Due.mk ?_); (first | with_reducible rfl | omega | assumption | decide | ((try simp only [goS] at *) <;> (try intro h) <;> (try intro h') <;> (try simp only [goS] at *) <;> (try simp only [rdi, rdy, Int.toNat_natCast, Nat.add_zero] at *) <;> (try simp only [rng]) <;> (first | assumption | omega)) | (exact due_app0 (by omega)) | (exact due_app (by omega)) | (intros; simp; done) | (intros; simp; omega)))
        | with_reducible refine Due.mk ?_
        | omega)
    · obtain rfl : k = n := by omega
      have b1 := by8_bd (hor (rt i) f k)
      have r1 : (btab t fun i' => if i' < i then hor (rt i') f k else 0#8).set (i : Int).toNat (by8 (hor (rt i) f k)) = btab t fun i' => if i' < i + 1 then hor (rt i') f k else 0#8 := by
        rw [Int.toNat_natCast]
        refine btab_set (by rw [if_pos (by omega)]) fun k' _ hk' => ?_
        by_cases h : k' < i
        · rw [if_pos h, if_pos (by omega)]
        · rw [if_neg h, if_neg (by omega)]
      by_cases hz : hor (rt i) f k = 0#8
      · have hz2 : by8 (hor (rt i) f k) = 0 := by8_zero.2 hz
        have hd : decide (by8 (hor (rt i) f k) = 0) = true := decide_eq_true hz2
        cases b with
        | true =>
          repeat' (first
            | refine GZy_i_y fl ?_ ?_ ?_ ?_ ?_ ?_ ?_ ?_
            | with_reducible first | exact BzZq.mk | refine Tw.ret ?_ | refine ImZq.i fun h => ?_ | refine IkZq.i fun hk => ?_)
          refine ⟨(i + 1, true), ⟨by dsimp only; omega, ⟨fun _ i' hi' => ?_, fun _ => rfl⟩⟩, by dsimp only; omega, TWk.fcanon env [some 0] (by rfl) ?_⟩
          · dsimp only at hi'
            by_cases e : i' = i
            · subst e; exact hz
            · exact hb.1 rfl i' (by omega)
          · repeat' (first
              | exact r1.symm
              | exact hd.symm
              | refine GZ_i_y ?_ ?_ ?_ ?_ ?_ ?_ ?_ ?_
              | with_reducible first | exact BzZq.mk | refine Tw.ret ?_ | refine ImZq.i fun h => ?_ | refine IkZq.i fun hk => ?_)
        | false =>
          repeat' (first
            | refine GZy_i_y fl ?_ ?_ ?_ ?_ ?_ ?_ ?_ ?_
            | with_reducible first | exact BzZq.mk | refine Tw.ret ?_ | refine ImZq.i fun h => ?_ | refine IkZq.i fun hk => ?_)
          refine ⟨(i + 1, false), ⟨by dsimp only; omega, ⟨fun h => (by cases h), fun h => hb.2 fun i' hi' => h i' (by dsimp only; omega)⟩⟩, by dsimp only; omega, TWk.fcanon env [some 0] (by rfl) ?_⟩
          repeat' (first
            | exact r1.symm
            | with_reducible first | exact Conj.nil | refine Conj.cons rfl ?_ | refine Conj.same ?_ | refine Conj.ask ?_ ?_
            | ((with_reducible refine Due.mk ?_); (first | with_reducible rfl | omega | assumption | decide | ((try simp only [goS] at *) <;> (try intro h) <;> (try intro h') <;> (try simp only [goS] at *) <;> (try simp only [rdi, rdy, Int.toNat_natCast, Nat.add_zero] at *) <;> (try simp only [rng]) <;> (first | assumption | omega)) | (exact due_app0 (by omega)) | (exact due_app (by omega)) | (intros; simp; done) | (intros; simp; omega)))
            | with_reducible refine Due.mk ?_
            | omega)
      · have hz2 : by8 (hor (rt i) f k) ≠ 0 := fun h => hz (by8_zero.1 h)
        have hd : decide (by8 (hor (rt i) f k) = 0) = false := decide_eq_false hz2
        cases b with
        | true =>
          repeat' (first
            | refine GZy_i_y fl ?_ ?_ ?_ ?_ ?_ ?_ ?_ ?_
            | with_reducible first | exact BzZq.mk | refine Tw.ret ?_ | refine ImZq.i fun h => ?_ | refine IkZq.i fun hk => ?_)
          refine ⟨(i + 1, false), ⟨by dsimp only; omega, ⟨fun h => (by cases h), fun h => absurd (h i (by dsimp only; omega)) hz⟩⟩, by dsimp only; omega, TWk.fcanon env [some 0] (by rfl) ?_⟩
          repeat' (first
            | exact r1.symm
            | exact hd.symm
            | with_reducible first | exact Conj.nil | refine Conj.cons rfl ?_ | refine Conj.same ?_ | refine Conj.ask ?_ ?_
            | ((with_reducible refine Due.mk ?_); (first | with_reducible rfl | omega | assumption | decide | ((try simp only [goS] at *) <;> (try intro h) <;> (try intro h') <;> (try simp only [goS] at *) <;> (try simp only [rdi, rdy, Int.toNat_natCast, Nat.add_zero] at *) <;> (try simp only [rng]) <;> (first | assumption | omega)) | (exact due_app0 (by omega)) | (exact due_app (by omega)) | (intros; simp; done) | (intros; simp; omega)))
            | with_reducible refine Due.mk ?_
            | omega)
        | false =>
          repeat' (first
            | refine GZy_i_y fl ?_ ?_ ?_ ?_ ?_ ?_ ?_ ?_
            | with_reducible first | exact BzZq.mk | refine Tw.ret ?_ | refine ImZq.i fun h => ?_ | refine IkZq.i fun hk => ?_)
          refine ⟨(i + 1, false), ⟨by dsimp only; omega, ⟨fun h => (by cases h), fun h => hb.2 fun i' hi' => h i' (by dsimp only; omega)⟩⟩, by dsimp only; omega, TWk.fcanon env [some 0] (by rfl) ?_⟩
          repeat' (first
            | exact r1.symm
            | with_reducible first | exact Conj.nil | refine Conj.cons rfl ?_ | refine Conj.same ?_ | refine Conj.ask ?_ ?_
            | ((with_reducible refine Due.mk ?_); (first | with_reducible rfl | omega | assumption | decide | ((try simp only [goS] at *) <;> (try intro h) <;> (try intro h') <;> (try simp only [goS] at *) <;> (try simp only [rdi, rdy, Int.toNat_natCast, Nat.add_zero] at *) <;> (try simp only [rng]) <;> (first | assumption | omega)) | (exact due_app0 (by omega)) | (exact due_app (by omega)) | (intros; simp; done) | (intros; simp; omega)))
            | with_reducible refine Due.mk ?_
            | omega)
  · obtain rfl : i = t := by omega
    have eb : decide (∀ i', i' < i → hor (rt i') f n = 0#8) = b := by
      cases b with
      | true => exact decide_eq_true (hb.1 rfl)
      | false => exact decide_eq_false fun h => by have := hb.2 h; cases this
    have er : (btab i fun i' => if i' < i then hor (rt i') f n else 0#8) = btab i fun i' => hor (rt i') f n := btab_congr fun k hk => if_pos hk
    rw [eb, ← er]
    repeat' (first
      | ((with_reducible refine Tw.retI ?_); refine Tw.gc env [0] [4, 5] (by rfl) (by rfl) ?_ (Tw.ret ?_))
      | refine GZp_i_y ?_ ?_ ?_ ?_ ?_ ?_ ?_ ?_
      | with_reducible first | exact BzZq.mk | refine Tw.ret ?_ | refine ImZq.i fun h => ?_ | refine IkZq.i fun hk => ?_)
    all_goals exact ⟨rfl, rfl⟩
theorem rcheck_c (n t : Nat) (l : List Int) (hl : l.length = n) : TC R Try.prog reedsolomon_check_f [.lst Ey l, .int .i64 t] [] (fun v X => v = .int .i64 (if t < 1 ∨ 64 < t then 3 else if 255 < n then 2 else if n ≤ t then 12 else 0) ∧ X = []) := by
  subst hl
  refine tc0 env reedsolomon_check_s (by rfl) ?_
  dsimp only [reedsolomon_check_c]
  repeat' (first
    | refine GZp_i_y ?_ ?_ ?_ ?_ ?_ ?_ ?_ ?_
    | with_reducible first | exact BzZq.mk | refine Tw.ret ?_ | refine ImZq.i fun h => ?_ | refine IkZq.i fun hk => ?_)
  · rw [if_pos (by omega)]; exact ⟨rfl, rfl, rfl⟩
  · rw [if_neg (by omega), if_pos (by omega)]; exact ⟨rfl, rfl, rfl⟩
  · rw [if_neg (by omega), if_neg (by omega), if_pos (by omega)]; exact ⟨rfl, rfl, rfl⟩
  · rw [if_neg (by omega), if_neg (by omega), if_neg (by omega)]; exact ⟨rfl, rfl, rfl⟩
end Go.Proofs.Ythkilkjngincpaa
namespace Go.Proofs.Ythkilkjngincpaa
open Go Go.Lite
set_option linter.unusedVariables false
set_option linter.unusedSimpArgs false
set_option maxRecDepth 100000
set_option maxHeartbeats 4000000
-- @simp rdi rdy

theorem shift_row {j : Nat} {g : Nat → BitVec 8} (hj : 1 ≤ j) {q : List Int} (hq : q = btab j g) :
    q.take 0 ++ (cut q (Int.toNat 1 + 0) (j - Int.toNat 1)).take ((cut q (Int.toNat 1 + 0) (j - Int.toNat 1)).length.min j) ++ q.drop (0 + (cut q (Int.toNat 1 + 0) (j - Int.toNat 1)).length.min j) = btab j fun k => if k + 1 < j then g (k + 1) else g k := by
  have e : cut q (Int.toNat 1 + 0) (j - Int.toNat 1) = (q.drop 1).take (j - 1) := rfl
  have ql : q.length = j := by rw [hq, btab_len]
  have el : ((q.drop 1).take (j - 1)).length = j - 1 := by simp; omega
  rw [e, el, show (j - 1).min j = j - 1 from Nat.min_eq_left (by omega), List.take_of_length_le (l := (q.drop 1).take (j - 1)) (by omega), Nat.zero_add, List.take_zero, List.nil_append]
  refine ext_getD 0 (by rw [List.length_append, el, List.length_drop, btab_len]; omega) fun i hi => ?_
  rw [List.length_append, el, List.length_drop] at hi
  rw [btab_get (by omega)]
  by_cases h : i < j - 1
  · rw [getD_app1 (by omega), getD_sub h, if_pos (by omega), hq, btab_get (by omega), Nat.add_comm]
  · rw [getD_app2 (by omega), el, if_neg (by omega)]
    have : (q.drop (j - 1)).getD (i - (j - 1)) 0 = q.getD (j - 1 + (i - (j - 1))) 0 := by simp [List.getD_eq_getElem?_getD, List.getElem?_drop]
    rw [this, show j - 1 + (i - (j - 1)) = i by omega, hq, btab_get (by omega)]
theorem encode_c (f : Nat → BitVec 8) (n t : Nat) (ht : Due (1 ≤ t ∧ t ≤ 64 ∧ 1 ≤ n ∧ n + t ≤ 255)) : TC R Try.prog reedsolomon_Encode_f [.lst Ey (btab n f), .int .i64 t] []
    (fun v X => v = .tup [.lst Ey (btab (n + t) (word rt t n f)), .int .i64 0] ∧ X = []) := by
  dsimp only [Due] at ht
  have nl : (btab n f).length = n := btab_len
  refine tc0 env reedsolomon_Encode_s (by rfl) ?_
  dsimp only [reedsolomon_Encode_c]
  repeat' (first
    | refine GZy_i_y nl ?_ ?_ ?_ ?_ ?_ ?_ ?_ ?_
    | with_reducible first | exact BzZq.mk | refine Tw.ret ?_ | refine ImZq.i fun h => ?_ | refine IkZq.i fun hk => ?_)
  refine Tw.loopK [0, 1, 28] (fun j : Nat => j ≤ t) (fun j => t - j) (fun j => [(29, .int .i64 j), (6, .sla 1 0 0 (j + 1))]) (fun j => [some (.arr Ey (btab (j + 1) (gco rt j)))])
    ⟨0, by omega, TWk.fcanon env [some 0] (by rfl) ?_⟩ (fun j hj => ?_)
  · repeat' (first
      | with_reducible first | exact Conj.nil | refine Conj.cons rfl ?_ | refine Conj.same ?_ | refine Conj.ask ?_ ?_
      | ((with_reducible refine Due.mk ?_); (first | with_reducible rfl | omega | assumption | decide | ((try simp only [goS] at *) <;> (try intro h) <;> (try intro h') <;> (try simp only [goS] at *) <;> (try simp only [rdi, rdy, Int.toNat_natCast, Nat.add_zero] at *) <;> (try simp only [rng]) <;> (first | assumption | omega)) | (exact due_app0 (by omega)) | (exact due_app (by omega)) | (intros; simp; done) | (intros; simp; omega)))
      | with_reducible refine Due.mk ?_
      | omega)
  have gl : ∀ j, (btab (j + 1) (gco rt j)).length = j + 1 := fun _ => btab_len
  rcases Nat.lt_or_ge j t with hj | hj
  · have rc := root_c j (by unfold Due; omega)
    have tr := times_r (gco rt j) (rt j) j (t + 1) (by unfold Due; omega)
    have e1 : btab (j + 2) (tms (gco rt j) (rt j) (j + 1) 0) = btab (j + 2) (gco rt (j + 1)) := btab_congr fun k _ => tms_gco rt j k
    have e2 : ((t + 1 : Nat) : Int) = (t : Int) + 1 := by omega
    have e3 : cut (btab (j + 1) (gco rt j)) 0 (j + 1) = btab (j + 1) (gco rt j) := cut_tab
    have e4 : cut [by8 (rt j), (1 : Int)] 0 2 = [by8 (rt j), 1] := rfl
    rw [e1, e2, ← e3, ← e4] at tr
    have h1 : 0 + (j + 1) ≤ (btab (j + 1) (gco rt j)).length := by rw [gl]; omega
    repeat' (first
      | ((with_reducible refine TOps.any ?_); refine TOps.callV env (by rfl) (by rfl) (by rfl) (rc) ?_)
      | ((with_reducible refine TOps.any ?_); refine TOps.callE env (by rfl) (by rfl) (by rfl) ?_ (tr) (by rfl) ?_)
      | exact h1
      | refine GZp_i_y ?_ ?_ ?_ ?_ ?_ ?_ ?_ ?_
      | with_reducible first | exact BzZq.mk | refine Tw.ret ?_ | refine ImZq.i fun h => ?_ | refine IkZq.i fun hk => ?_)
    refine ⟨j + 1, by omega, by omega, TWk.fcanon env [some 2] (by rfl) ?_⟩
    repeat' (first
      | with_reducible first | exact Conj.nil | refine Conj.cons rfl ?_ | refine Conj.same ?_ | refine Conj.ask ?_ ?_
      | ((with_reducible refine Due.mk ?_); (first | with_reducible rfl | omega | assumption | decide | ((try simp only [goS] at *) <;> (try intro h) <;> (try intro h') <;> (try simp only [goS] at *) <;> (try simp only [rdi, rdy, Int.toNat_natCast, Nat.add_zero] at *) <;> (try simp only [rng]) <;> (first | assumption | omega)) | (exact due_app0 (by omega)) | (exact due_app (by omega)) | (intros; simp; done) | (intros; simp; omega)))
      | with_reducible refine Due.mk ?_
      | omega)
  obtain rfl : j = t := by omega
  repeat' (first
    | refine GZy_i_y nl ?_ ?_ ?_ ?_ ?_ ?_ ?_ ?_
    | with_reducible first | exact BzZq.mk | refine Tw.ret ?_ | refine ImZq.i fun h => ?_ | refine IkZq.i fun hk => ?_)
  rw [Int.toNat_natCast]
  have rl : ∀ g, (btab j g).length = j := fun _ => btab_len
  refine Tw.loopK [0, 1, 6, 8, 42, 43] (fun m : Nat => m ≤ n) (fun m => n - m) (fun m => [(44, .int .i64 m)]) (fun m => [some (.arr Ey (btab (j + 1) (gco rt j))), some (.arr Ey (btab j (rmd rt j f m)))])
    ⟨0, by omega, TWk.fcanon env [some 0, some 1] (by rfl) ?_⟩ (fun m hm => ?_)
  · repeat' (first
      | exact btab_zero.symm
      | with_reducible first | exact Conj.nil | refine Conj.cons rfl ?_ | refine Conj.same ?_ | refine Conj.ask ?_ ?_
      | ((with_reducible refine Due.mk ?_); (first | with_reducible rfl | omega | assumption | decide | ((try simp only [goS] at *) <;> (try intro h) <;> (try intro h') <;> (try simp only [goS] at *) <;> (try simp only [rdi, rdy, Int.toNat_natCast, Nat.add_zero] at *) <;> (try simp only [rng]) <;> (first | assumption | omega)) | (exact due_app0 (by omega)) | (exact due_app (by omega)) | (intros; simp; done) | (intros; simp; omega)))
      | with_reducible refine Due.mk ?_
      | omega)
  rcases Nat.lt_or_ge m n with hm | hm
  · have fm : (btab n f).getD m 0 = by8 (f m) := btab_get hm
    have r0 : (btab j (rmd rt j f m)).getD 0 0 = by8 (rmd rt j f m 0) := btab_get (by omega)
    have b1 := by8_bd (f m)
    have b2 := by8_bd (rmd rt j f m 0)
    have x1 : bxor (by8 (f m)) (by8 (rmd rt j f m 0)) = by8 (f m ^^^ rmd rt j f m 0) := by8_xor _ _
    have sr := shift_row (j := j) (by omega) (q := btab j (rmd rt j f m)) rfl
    have hs : ((j : Int) - 1).toNat + 0 < ((btab j (rmd rt j f m)).take 0 ++ (cut (btab j (rmd rt j f m)) (Int.toNat 1 + 0) (j - Int.toNat 1)).take ((cut (btab j (rmd rt j f m)) (Int.toNat 1 + 0) (j - Int.toNat 1)).length.min j) ++ (btab j (rmd rt j f m)).drop (0 + (cut (btab j (rmd rt j f m)) (Int.toNat 1 + 0) (j - Int.toNat 1)).length.min j)).length := by
      rw [sr, btab_len]; omega
    repeat' (first
      | exact hs
      | refine GZy_i_y (And.intro nl (And.intro fm (And.intro r0 rl))) ?_ ?_ ?_ ?_ ?_ ?_ ?_ ?_
      | with_reducible first | exact BzZq.mk | refine Tw.ret ?_ | refine ImZq.i fun h => ?_ | refine IkZq.i fun hk => ?_)
    generalize hfb : f m ^^^ rmd rt j f m 0 = fb at *
    refine Tw.loopK [0, 1, 6, 8, 42, 43, 44, 62] (fun k : Nat => k ≤ j) (fun k => j - k) (fun k => [(63, .int .i64 k), (11, .int .u8 (by8 fb))])
      (fun k => [some (.arr Ey (btab (j + 1) (gco rt j))), some (.arr Ey (btab j fun i => (if i + 1 < j then rmd rt j f m (i + 1) else 0#8) ^^^ (if i < k then mulF fb (gco rt j (j - 1 - i)) else 0#8)))])
      ⟨0, by omega, TWk.fcanon env [some 0, some 1] (by rfl) ?_⟩ (fun k hk => ?_)
    · have r1 : (btab j fun i => (if i + 1 < j then rmd rt j f m (i + 1) else 0#8) ^^^ (if i < 0 then mulF fb (gco rt j (j - 1 - i)) else 0#8)) = ((btab j (rmd rt j f m)).take 0 ++ (cut (btab j (rmd rt j f m)) (Int.toNat 1 + 0) (j - Int.toNat 1)).take ((cut (btab j (rmd rt j f m)) (Int.toNat 1 + 0) (j - Int.toNat 1)).length.min j) ++ (btab j (rmd rt j f m)).drop (0 + (cut (btab j (rmd rt j f m)) (Int.toNat 1 + 0) (j - Int.toNat 1)).length.min j)).set (((j : Int) - 1).toNat + 0) 0 := by
        rw [sr, Nat.add_zero, show ((j : Int) - 1).toNat = j - 1 by omega]
        refine (btab_set (g := fun i => (if i + 1 < j then rmd rt j f m (i + 1) else 0#8) ^^^ (if i < 0 then mulF fb (gco rt j (j - 1 - i)) else 0#8)) ?_ fun i hi hne => ?_).symm
        · rw [if_neg (by omega), if_neg (by omega)]; rfl
        · rw [if_neg (show ¬ i < 0 by omega), BitVec.xor_zero, if_pos (by omega), if_pos (by omega)]
      have x2 : by8 fb = bxor ((btab n f).getD (m : Int).toNat 0) ((btab j (rmd rt j f m)).getD (Int.toNat 0 + 0) 0) := by
        rw [Int.toNat_natCast, fm]
        show by8 fb = bxor (by8 (f m)) ((btab j (rmd rt j f m)).getD 0 0)
        rw [r0, x1]
      repeat' (first
        | exact r1
        | exact x2
        | refine GZ_i_y ?_ ?_ ?_ ?_ ?_ ?_ ?_ ?_
        | with_reducible first | exact BzZq.mk | refine Tw.ret ?_ | refine ImZq.i fun h => ?_ | refine IkZq.i fun hk => ?_)
    rcases Nat.lt_or_ge k j with hk | hk
    · have k1 : ((j : Int) - 1 - k).toNat = j - 1 - k := by omega
      have gg : (btab (j + 1) (gco rt j)).getD (j - 1 - k) 0 = by8 (gco rt j (j - 1 - k)) := btab_get (by omega)
      have mc : TC R Try.prog reedsolomon_Mul_f [.int .u8 (by8 fb), .int .u8 ((btab (j + 1) (gco rt j)).getD (((j : Int) - 1 - k).toNat + 0) 0)] [] (fun v X => v = .int .u8 (by8 (mulF fb (gco rt j (j - 1 - k)))) ∧ X = []) := by
        rw [k1]; simp only [Nat.add_zero]; rw [gg]; exact mul_c fb (gco rt j (j - 1 - k))
      have b3 := by8_bd (mulF fb (gco rt j (j - 1 - k)))
      have vg : (btab j fun i => (if i + 1 < j then rmd rt j f m (i + 1) else 0#8) ^^^ (if i < k then mulF fb (gco rt j (j - 1 - i)) else 0#8)).getD k 0 = by8 (if k + 1 < j then rmd rt j f m (k + 1) else 0#8) := by
        rw [btab_get hk, if_neg (show ¬ k < k by omega), BitVec.xor_zero]
      have b4 := by8_bd (if k + 1 < j then rmd rt j f m (k + 1) else 0#8)
      have r1 : (btab j fun i => (if i + 1 < j then rmd rt j f m (i + 1) else 0#8) ^^^ (if i < k then mulF fb (gco rt j (j - 1 - i)) else 0#8)).set ((k : Int).toNat + 0) (bxor ((btab j fun i => (if i + 1 < j then rmd rt j f m (i + 1) else 0#8) ^^^ (if i < k then mulF fb (gco rt j (j - 1 - i)) else 0#8)).getD ((k : Int).toNat + 0) 0) (by8 (mulF fb (gco rt j (j - 1 - k))))) = btab j fun i => (if i + 1 < j then rmd rt j f m (i + 1) else 0#8) ^^^ (if i < k + 1 then mulF fb (gco rt j (j - 1 - i)) else 0#8) := by
        rw [Int.toNat_natCast]; simp only [Nat.add_zero]; rw [vg, by8_xor]
        refine btab_set (by rw [if_pos (show k < k + 1 by omega)]) fun i hi hne => ?_
        congr 1
        by_cases h : i < k
        · rw [if_pos h, if_pos (by omega)]
        · rw [if_neg h, if_neg (by omega)]
      repeat' (first
        | ((with_reducible refine TDr.any ?_); refine TDr.callE env (by first | rfl | assumption) (by rfl) (by rfl) ?_ (mc) (by rfl) (by rfl) ?_)
        | refine GZy_i_y (And.intro rl (And.intro gl (And.intro k1 (And.intro gg vg)))) ?_ ?_ ?_ ?_ ?_ ?_ ?_ ?_
        | with_reducible first | exact BzZq.mk | refine Tw.ret ?_ | refine ImZq.i fun h => ?_ | refine IkZq.i fun hk => ?_)
      refine ⟨k + 1, by omega, by omega, TWk.fcanon env [some 0, some 1] (by rfl) ?_⟩
      repeat' (first
        | exact r1.symm
        | with_reducible first | exact Conj.nil | refine Conj.cons rfl ?_ | refine Conj.same ?_ | refine Conj.ask ?_ ?_
        | ((with_reducible refine Due.mk ?_); (first | with_reducible rfl | omega | assumption | decide | ((try simp only [goS] at *) <;> (try intro h) <;> (try intro h') <;> (try simp only [goS] at *) <;> (try simp only [rdi, rdy, Int.toNat_natCast, Nat.add_zero] at *) <;> (try simp only [rng]) <;> (first | assumption | omega)) | (exact due_app0 (by omega)) | (exact due_app (by omega)) | (intros; simp; done) | (intros; simp; omega)))
        | with_reducible refine Due.mk ?_
        | omega)
    · obtain rfl : k = j := by omega
      have r1 : (btab k (rmd rt k f (m + 1))) = btab k fun i => (if i + 1 < k then rmd rt k f m (i + 1) else 0#8) ^^^ (if i < k then mulF fb (gco rt k (k - 1 - i)) else 0#8) := btab_congr fun i hi => by
        rw [if_pos hi]; simp only [rmd]; rw [hfb]
      repeat' (first
        | refine GZp_i_y ?_ ?_ ?_ ?_ ?_ ?_ ?_ ?_
        | with_reducible first | exact BzZq.mk | refine Tw.ret ?_ | refine ImZq.i fun h => ?_ | refine IkZq.i fun hk => ?_)
      refine ⟨m + 1, by omega, by omega, TWk.fcanon env [some 0, some 1] (by rfl) ?_⟩
      repeat' (first
        | exact r1
        | with_reducible first | exact Conj.nil | refine Conj.cons rfl ?_ | refine Conj.same ?_ | refine Conj.ask ?_ ?_
        | ((with_reducible refine Due.mk ?_); (first | with_reducible rfl | omega | assumption | decide | ((try simp only [goS] at *) <;> (try intro h) <;> (try intro h') <;> (try simp only [goS] at *) <;> (try simp only [rdi, rdy, Int.toNat_natCast, Nat.add_zero] at *) <;> (try simp only [rng]) <;> (first | assumption | omega)) | (exact due_app0 (by omega)) | (exact due_app (by omega)) | (intros; simp; done) | (intros; simp; omega)))
        | with_reducible refine Due.mk ?_
        | omega)
  · obtain rfl : m = n := by omega
    have l1 : (cut (btab j (rmd rt j f m)) 0 j).length = j := by rw [show cut (btab j (rmd rt j f m)) 0 j = btab j (rmd rt j f m) from cut_tab, btab_len]
    have e3 : ((btab m f).length + (cut (btab j (rmd rt j f m)) 0 j).length) * 1 ≤ 140737488355328 ∧ (btab m f).length + (cut (btab j (rmd rt j f m)) 0 j).length ≤ 140737488355328 := by rw [l1, nl]; omega
    have l2 : 0 + j ≤ (btab j (rmd rt j f m)).length := by rw [rl]; omega
    have wl : cut (btab m f) 0 (btab m f).length ++ cut (btab j (rmd rt j f m)) 0 j = btab (m + j) (word rt j m f) := by
      rw [show cut (btab m f) 0 (btab m f).length = btab m f from cut_all rfl, show cut (btab j (rmd rt j f m)) 0 j = btab j (rmd rt j f m) from cut_tab]
      refine ext_getD 0 (by rw [List.length_append, btab_len, btab_len, btab_len]) fun i hi => ?_
      rw [List.length_append, btab_len, btab_len] at hi
      rw [btab_get (by omega)]
      unfold word
      by_cases h : i < m
      · rw [getD_app1 (by rw [btab_len]; exact h), btab_get h, if_pos h]
      · rw [getD_app2 (by rw [btab_len]; omega), btab_len, btab_get (by omega), if_neg h]
    have hle : 0 + ((btab m f).length + (cut (btab j (rmd rt j f m)) 0 j).length) ≤ (cut (btab m f) 0 (btab m f).length ++ cut (btab j (rmd rt j f m)) 0 j).length := by rw [wl, l1, nl, btab_len]; omega
    have fe : cut (cut (btab m f) 0 (btab m f).length ++ cut (btab j (rmd rt j f m)) 0 j) 0 ((btab m f).length + (cut (btab j (rmd rt j f m)) 0 j).length) = btab (m + j) (word rt j m f) := by
      rw [wl, l1, nl]; exact cut_tab
    repeat' (first
      | exact e3
      | exact l2
      | exact hle
      | ((with_reducible refine Tw.retI ?_); refine Tw.frz env 3 (by rfl) (by rfl) (by rfl) ?_ ?_ (Tw.ret ?_))
      | refine GZp_i_y ?_ ?_ ?_ ?_ ?_ ?_ ?_ ?_
      | with_reducible first | exact BzZq.mk | refine Tw.ret ?_ | refine ImZq.i fun h => ?_ | refine IkZq.i fun hk => ?_)
    all_goals first | exact hle | exact ⟨rfl, congrArg (fun l : List Int => (TV.tup [.lst Ey l, .int .i64 0] : TV A)) fe, rfl⟩
end Go.Proofs.Ythkilkjngincpaa
namespace Go.Proofs.Ythkilkjngincpaa
open Go Go.Lite
set_option linter.unusedVariables false
set_option linter.unusedSimpArgs false
set_option maxRecDepth 100000
set_option maxHeartbeats 4000000

/-- The number whose binary digits are g 0, .., g (n - 1), the first the greatest. -/
def bitsN (g : Nat → Bool) : Nat → Nat
  | 0 => 0
  | n + 1 => 2 * bitsN g n + (g n).toNat
theorem bitsN_lt (g : Nat → Bool) : ∀ n, bitsN g n < 2 ^ n
  | 0 => by simp [bitsN]
  | n + 1 => by
    have := bitsN_lt g n
    simp only [bitsN, Nat.pow_succ]
    have : (g n).toNat ≤ 1 := Bool.toNat_le _
    omega
theorem tb_zero {a : Nat} {b : Bool} : (2 * a + b.toNat).testBit 0 = b := by
  rw [Nat.testBit_zero]; cases b <;> simp <;> omega
theorem tb_succ {a m : Nat} {b : Bool} : (2 * a + b.toNat).testBit (m + 1) = a.testBit m := by
  rw [Nat.testBit_succ]; congr 1; cases b <;> simp <;> omega
theorem bitsN_bit (g : Nat → Bool) : ∀ n m, (bitsN g n).testBit m = if m < n then g (n - 1 - m) else false
  | 0, m => by simp [bitsN]
  | n + 1, 0 => by simp only [bitsN, tb_zero]; simp
  | n + 1, m + 1 => by
    simp only [bitsN, tb_succ]
    rw [bitsN_bit g n m]
    by_cases h : m < n
    · rw [if_pos h, if_pos (by omega)]; congr 1; omega
    · rw [if_neg h, if_neg (by omega)]
theorem bitsN_congr {f g : Nat → Bool} : ∀ {n : Nat}, (∀ i, i < n → f i = g i) → bitsN f n = bitsN g n
  | 0, _ => rfl
  | n + 1, h => by simp only [bitsN]; rw [bitsN_congr fun i hi => h i (by omega), h n (by omega)]

/-- Pixel b, from the left, of a byte. -/
def bt (v : Int) (b : Nat) : Bool := v.toNat.testBit (7 - b)
theorem byte_ext {u v : Int} (hu : 0 ≤ u ∧ u ≤ 255) (hv : 0 ≤ v ∧ v ≤ 255) (h : ∀ b, b < 8 → bt u b = bt v b) : u = v := by
  have : u.toNat = v.toNat := Nat.eq_of_testBit_eq fun m => by
    rcases Nat.lt_or_ge m 8 with hm | hm
    · have := h (7 - m) (by omega)
      unfold bt at this
      rwa [show 7 - (7 - m) = m by omega] at this
    · have h2 : (256 : Nat) ≤ 2 ^ m := Nat.le_trans (show (256 : Nat) ≤ 2 ^ 8 by decide) (Nat.pow_le_pow_right (by omega) hm)
      rw [Nat.testBit_lt_two_pow (by omega), Nat.testBit_lt_two_pow (by omega)]
  omega
theorem sh_pow {b : Nat} (h : b < 8) : (128 : Int) / 2 ^ b = ((2 ^ (7 - b) : Nat) : Int) := by
  match b, h with
  | 0, _ | 1, _ | 2, _ | 3, _ | 4, _ | 5, _ | 6, _ | 7, _ => decide
theorem band_bt {v : Int} {b : Nat} (hb : b < 8) : (band v ((128 : Int) / 2 ^ b) = 0) = (bt v b = false) := by
  rw [sh_pow hb]
  simp only [band, Int.toNat_natCast, bt]
  have e : (((v.toNat &&& 2 ^ (7 - b) : Nat) : Int) = 0) = ((v.toNat &&& 2 ^ (7 - b)) = 0) := by simp
  rw [e]
  apply propext
  constructor
  · intro h
    have h2 := congrArg (·.testBit (7 - b)) h
    simp only [Nat.testBit_and, Nat.testBit_two_pow_self, Bool.and_true, Nat.zero_testBit] at h2
    exact h2
  · intro h
    refine Nat.eq_of_testBit_eq fun m => ?_
    rw [Nat.testBit_and, Nat.zero_testBit, Nat.testBit_two_pow]
    by_cases e : 7 - b = m
    · subst e; rw [h]; rfl
    · simp [e]
theorem bor_bd {a b : Int} (ha : 0 ≤ a ∧ a ≤ 255) (hb : 0 ≤ b ∧ b ≤ 255) : 0 ≤ bor a b ∧ bor a b ≤ 255 := by
  unfold bor
  have : a.toNat ||| b.toNat < 2 ^ 8 := Nat.or_lt_two_pow (by omega) (by omega)
  omega
theorem bt_bor {a b : Int} {k : Nat} : bt (bor a b) k = (bt a k || bt b k) := by
  simp only [bt, bor, Int.toNat_natCast, Nat.testBit_or]
theorem bt_sh {b k : Nat} (hb : b < 8) (hk : k < 8) : bt ((128 : Int) / 2 ^ b) k = decide (k = b) := by
  rw [sh_pow hb]
  simp only [bt, Int.toNat_natCast, Nat.testBit_two_pow]
  by_cases e : k = b
  · subst e; simp
  · rw [decide_eq_false e, decide_eq_false (by omega)]

/-- Bytes of a row of w pixels. -/
def st (w : Nat) : Nat := (w + 7) / 8
/-- The bytes of a bitmap. -/
def bmB (w : Nat) (f : Nat → Nat → Bool) (i : Nat) : Int := (bitsN (fun b => decide (8 * (i % st w) + b < w) && f (8 * (i % st w) + b) (i / st w)) 8 : Nat)
def bm (w h : Nat) (f : Nat → Nat → Bool) : List Int := tab (st w * h) (bmB w f)
theorem bm_len {w h : Nat} {f : Nat → Nat → Bool} : (bm w h f).length = st w * h := tab_len
theorem bmB_bd (w : Nat) (f : Nat → Nat → Bool) (i : Nat) : 0 ≤ bmB w f i ∧ bmB w f i ≤ 255 := by
  have := bitsN_lt (fun b => decide (8 * (i % st w) + b < w) && f (8 * (i % st w) + b) (i / st w)) 8
  unfold bmB; omega
theorem bm_get {w h : Nat} {f : Nat → Nat → Bool} {i : Nat} (hi : i < st w * h) : (bm w h f).getD i 0 = bmB w f i := tab_get hi
theorem bm_bd {w h : Nat} {f : Nat → Nat → Bool} {i : Nat} (hi : i < st w * h) : 0 ≤ (bm w h f).getD i 0 ∧ (bm w h f).getD i 0 ≤ 255 := by rw [bm_get hi]; exact bmB_bd _ _ _
theorem bmB_bit {w : Nat} {f : Nat → Nat → Bool} {i b : Nat} (hb : b < 8) : bt (bmB w f i) b = (decide (8 * (i % st w) + b < w) && f (8 * (i % st w) + b) (i / st w)) := by
  unfold bt bmB
  rw [Int.toNat_natCast, bitsN_bit, if_pos (by omega), show 8 - 1 - (7 - b) = b by omega]
theorem st_pos {w : Nat} (h : 0 < w) : 0 < st w := by unfold st; omega
/-- The byte of a pixel. -/
def at8 (w x y : Nat) : Nat := y * st w + x / 8
theorem at8_lt {w h x y : Nat} (hx : x < w) (hy : y < h) : at8 w x y < st w * h := by
  have h1 : x / 8 < st w := by unfold st; omega
  have h2 : (y + 1) * st w ≤ h * st w := Nat.mul_le_mul_right _ hy
  rw [Nat.mul_comm (st w) h]
  unfold at8
  rw [Nat.add_mul] at h2
  omega
theorem at8_mod {w x y : Nat} (hx : x < w) : at8 w x y % st w = x / 8 := by
  have h1 : x / 8 < st w := by unfold st; omega
  unfold at8
  rw [Nat.mul_comm, Nat.mul_add_mod, Nat.mod_eq_of_lt h1]
theorem at8_div {w x y : Nat} (hx : x < w) : at8 w x y / st w = y := by
  have h1 : x / 8 < st w := by unfold st; omega
  unfold at8
  rw [Nat.mul_comm, Nat.mul_add_div (by omega), Nat.div_eq_of_lt h1, Nat.add_zero]
theorem bm_pix {w h : Nat} {f : Nat → Nat → Bool} {x y : Nat} (hx : x < w) (hy : y < h) : bt ((bm w h f).getD (at8 w x y) 0) (x % 8) = f x y := by
  rw [bm_get (at8_lt hx hy), bmB_bit (by omega), at8_mod hx, at8_div hx, show 8 * (x / 8) + x % 8 = x by omega, decide_eq_true hx, Bool.true_and]
theorem bm_congr {w h : Nat} {f g : Nat → Nat → Bool} (e : ∀ x y, x < w → y < h → f x y = g x y) : bm w h f = bm w h g := by
  refine ext_getD 0 (by simp only [bm_len]) fun i hi => ?_
  rw [bm_len] at hi
  rw [bm_get hi, bm_get hi]
  unfold bmB
  refine congrArg (fun n : Nat => (n : Int)) ?_
  refine bitsN_congr fun b hb => ?_
  by_cases hw : 8 * (i % st w) + b < w
  · have h0 : 0 < st w := st_pos (by omega)
    rw [e _ _ hw (Nat.div_lt_of_lt_mul hi)]
  · rw [decide_eq_false hw]; rfl
/-- A pixel set. -/
theorem bm_mark {w h : Nat} {f : Nat → Nat → Bool} {x y : Nat} (hx : x < w) (hy : y < h) :
    (bm w h f).set (at8 w x y) (bor ((bm w h f).getD (at8 w x y) 0) ((128 : Int) / 2 ^ (x % 8))) = bm w h (fun i j => f i j || (decide (i = x) && decide (j = y))) := by
  have hl := at8_lt hx hy
  refine ext_getD 0 (by simp only [List.length_set, bm_len]) fun i hi => ?_
  simp only [List.length_set, bm_len] at hi
  have h0 : 0 < st w := st_pos (by omega)
  have hd : 8 * (i % st w) / 8 = i % st w := by omega
  have hsh : (0 : Int) ≤ (128 : Int) / 2 ^ (x % 8) ∧ (128 : Int) / 2 ^ (x % 8) ≤ 255 := by
    rw [sh_pow (by omega)]
    have h7 : (2 : Nat) ^ (7 - x % 8) ≤ 2 ^ 7 := Nat.pow_le_pow_right (by omega) (by omega)
    generalize (2 : Nat) ^ (7 - x % 8) = m at *
    omega
  by_cases e : at8 w x y = i
  · subst e
    rw [getD_set_eq (by rw [bm_len]; exact hl), bm_get hl, bm_get hl]
    refine byte_ext (bor_bd (bmB_bd _ _ _) hsh) (bmB_bd _ _ _) fun b hb => ?_
    rw [bt_bor, bt_sh (by omega) hb, bmB_bit hb, bmB_bit hb, at8_mod hx, at8_div hx]
    by_cases eb : b = x % 8
    · subst eb
      rw [show 8 * (x / 8) + x % 8 = x by omega, decide_eq_true hx]
      simp
    · rw [decide_eq_false eb, decide_eq_false (show ¬ 8 * (x / 8) + b = x by omega)]; simp
  · rw [getD_set_ne e, bm_get hi, bm_get hi]
    unfold bmB
    refine congrArg (fun n : Nat => (n : Int)) ?_
    refine bitsN_congr fun b hb => ?_
    by_cases ex : 8 * (i % st w) + b = x ∧ i / st w = y
    · exfalso
      apply e
      unfold at8
      have := Nat.div_add_mod i (st w)
      rw [ex.2, Nat.mul_comm] at this
      omega
    · have : (decide (8 * (i % st w) + b = x) && decide (i / st w = y)) = false := by
        rw [Bool.and_eq_false_iff, decide_eq_false_iff_not, decide_eq_false_iff_not]
        exact Decidable.not_and_iff_or_not.1 ex
      dsimp only
      rw [this, Bool.or_false]
theorem bm_blank {w h : Nat} : bm w h (fun _ _ => false) = List.replicate (st w * h) 0 := by
  refine ext_getD 0 (by simp [bm_len]) fun i hi => ?_
  rw [bm_len] at hi
  rw [bm_get hi, getD_repl hi]
  refine byte_ext (bmB_bd _ _ _) (by omega) fun b hb => ?_
  rw [bmB_bit hb]
  simp [bt]

/-- The pixel (x, y) of a bitmap, wherever. -/
def px (w h : Nat) (d : List Int) (x y : Int) : Bool := decide (0 ≤ x ∧ x < w ∧ 0 ≤ y ∧ y < h) && bt (d.getD (at8 w x.toNat y.toNat) 0) (x.toNat % 8)
theorem px_bm {w h : Nat} {f : Nat → Nat → Bool} {x y : Nat} (hx : x < w) (hy : y < h) : px w h (bm w h f) x y = f x y := by
  unfold px
  rw [decide_eq_true (by omega), Int.toNat_natCast, Int.toNat_natCast, bm_pix hx hy, Bool.true_and]
theorem px_out {w h : Nat} {d : List Int} {x y : Int} (hn : ¬ (0 ≤ x ∧ x < w ∧ 0 ≤ y ∧ y < h)) : px w h d x y = false := by
  unfold px; rw [decide_eq_false hn, Bool.false_and]
/-- A bitmap as it should be. -/
structure BmOk (w h : Nat) (d : List Int) : Prop where
  w1 : 1 ≤ w ∧ w ≤ 1024
  h1 : 1 ≤ h ∧ h ≤ 1024
  len : d.length = st w * h
  byte : ∀ i, i < d.length → 0 ≤ d.getD i 0 ∧ d.getD i 0 ≤ 255
  clear : ∀ y b, y < h → b < 8 → w ≤ 8 * (st w - 1) + b → bt (d.getD (y * st w + (st w - 1)) 0) b = false
theorem bm_ok {w h : Nat} {f : Nat → Nat → Bool} (hw : 1 ≤ w ∧ w ≤ 1024) (hh : 1 ≤ h ∧ h ≤ 1024) : BmOk w h (bm w h f) := by
  have h0 : 0 < st w := st_pos (by omega)
  refine ⟨hw, hh, bm_len, fun i hi => bm_bd (by rwa [bm_len] at hi), fun y b hy hb hc => ?_⟩
  have hl : y * st w + (st w - 1) < st w * h := by
    have h2 : (y + 1) * st w ≤ h * st w := Nat.mul_le_mul_right _ hy
    rw [Nat.mul_comm (st w) h]
    rw [Nat.add_mul] at h2
    omega
  rw [bm_get hl, bmB_bit hb, Nat.mul_comm y, Nat.mul_add_mod, Nat.mod_eq_of_lt (by omega), decide_eq_false (by omega), Bool.false_and]
theorem st_bd {w : Nat} (h : 1 ≤ w ∧ w ≤ 1024) : 1 ≤ st w ∧ st w ≤ 128 := by unfold st; omega
theorem len_bd {w h : Nat} (hw : 1 ≤ w ∧ w ≤ 1024) (hh : 1 ≤ h ∧ h ≤ 1024) : 1 ≤ st w * h ∧ st w * h ≤ 131072 := by
  have h1 := st_bd hw
  have h2 : st w * h ≤ 128 * 1024 := Nat.mul_le_mul h1.2 hh.2
  have h3 : 1 * 1 ≤ st w * h := Nat.mul_le_mul h1.1 hh.1
  omega
/-- The last bits of a byte. -/
theorem band_low {v : Int} {k : Nat} (hv : 0 ≤ v ∧ v ≤ 255) (hk : k ≤ 7) : (band v ((2 ^ k - 1 : Nat) : Int) = 0) ↔ ∀ b, b < 8 → 8 - k ≤ b → bt v b = false := by
  have e : band v ((2 ^ k - 1 : Nat) : Int) = ((v.toNat % 2 ^ k : Nat) : Int) := by
    simp only [band, Int.toNat_natCast, Nat.and_two_pow_sub_one_eq_mod]
  rw [e]
  constructor
  · intro h b hb hc
    have h2 : v.toNat % 2 ^ k = 0 := by omega
    have h3 := Nat.testBit_mod_two_pow v.toNat k (7 - b)
    rw [h2, Nat.zero_testBit, decide_eq_true (show 7 - b < k by omega), Bool.true_and] at h3
    exact h3.symm
  · intro h
    have : v.toNat % 2 ^ k = 0 := Nat.eq_of_testBit_eq fun m => by
      rw [Nat.testBit_mod_two_pow, Nat.zero_testBit]
      by_cases hm : m < k
      · have := h (7 - m) (by omega) (by omega)
        unfold bt at this
        rw [show 7 - (7 - m) = m by omega] at this
        rw [this, Bool.and_false]
      · rw [decide_eq_false hm, Bool.false_and]
    rw [this]; rfl
open Classical in
noncomputable def bitsE (W H : Int) (d : List Int) : Int := if W < 1 ∨ 1024 < W ∨ H < 1 ∨ 1024 < H then 3 else if d.length ≠ st W.toNat * H.toNat then 4 else
  if ∀ y b, y < H.toNat → b < 8 → W.toNat ≤ 8 * (st W.toNat - 1) + b → bt (d.getD (y * st W.toNat + (st W.toNat - 1)) 0) b = false then 0 else 4
theorem bitsE_ok {W H : Int} {d : List Int} (hd : ∀ i, i < d.length → 0 ≤ d.getD i 0 ∧ d.getD i 0 ≤ 255) : bitsE W H d = 0 ↔ ∃ w h : Nat, W = w ∧ H = h ∧ BmOk w h d := by
  unfold bitsE
  constructor
  · intro hh
    split at hh
    · cases hh
    · split at hh
      · cases hh
      · split at hh
        · rename_i h1 h2 h3
          exact ⟨W.toNat, H.toNat, by omega, by omega, by omega, by omega, Decidable.not_not.1 h2, hd, h3⟩
        · cases hh
  · rintro ⟨w, h, rfl, rfl, k⟩
    have h1 := k.w1
    have h2 := k.h1
    rw [if_neg (by omega), if_neg (fun hn => hn k.len)]
    exact if_pos k.clear
theorem at_last {w h y : Nat} (hy : y < h) (hw : 0 < w) : y * st w + st w - 1 < st w * h ∧ y * st w + (st w - 1) = y * st w + st w - 1 := by
  have h0 := st_pos hw
  have h2 : (y + 1) * st w ≤ h * st w := Nat.mul_le_mul_right _ hy
  rw [Nat.mul_comm (st w) h]
  rw [Nat.add_mul] at h2
  omega
/-- The pixels before (x, y). -/
def upto (g : Nat → Nat → Bool) (x y i j : Nat) : Bool := decide (j < y ∨ (j = y ∧ i < x)) && g i j
theorem upto_yes {g : Nat → Nat → Bool} {x y : Nat} (h : g x y = true) (i j : Nat) : (upto g x y i j || (decide (i = x) && decide (j = y))) = upto g (x + 1) y i j := by
  unfold upto
  by_cases e : i = x ∧ j = y
  · obtain ⟨rfl, rfl⟩ := e
    rw [h, decide_eq_true (show j < j ∨ (j = j ∧ i < i + 1) by omega)]; simp
  · have hne : (decide (i = x) && decide (j = y)) = false := by
      rw [Bool.and_eq_false_iff, decide_eq_false_iff_not, decide_eq_false_iff_not]
      exact Decidable.not_and_iff_or_not.1 e
    rw [hne, Bool.or_false]
    congr 1
    exact decide_eq_decide.2 (by omega)
theorem upto_no {g : Nat → Nat → Bool} {x y : Nat} (h : g x y = false) (i j : Nat) : upto g x y i j = upto g (x + 1) y i j := by
  unfold upto
  by_cases e : i = x ∧ j = y
  · obtain ⟨rfl, rfl⟩ := e; rw [h, Bool.and_false, Bool.and_false]
  · congr 1
    exact decide_eq_decide.2 (by omega)
theorem upto_row {g : Nat → Nat → Bool} {w y i j : Nat} (h : i < w) : upto g w y i j = upto g 0 (y + 1) i j := by
  unfold upto; congr 1; exact decide_eq_decide.2 (by omega)
theorem upto_all {g : Nat → Nat → Bool} {k i j : Nat} (h : j < k) : upto g 0 k i j = g i j := by
  unfold upto; rw [decide_eq_true (by omega), Bool.true_and]
theorem upto_none {g : Nat → Nat → Bool} {i j : Nat} : upto g 0 0 i j = false := by
  unfold upto; rw [decide_eq_false (by omega), Bool.false_and]
end Go.Proofs.Ythkilkjngincpaa
namespace Go.Proofs.Ythkilkjngincpaa
open Go Go.Lite
set_option linter.unusedVariables false
set_option linter.unusedSimpArgs false
set_option maxRecDepth 100000
set_option maxHeartbeats 4000000
-- @simp rdi rdy

theorem stride_c (w : Nat) (h : Due (w ≤ 1024)) : TC R Try.prog bitmap_stride_f [.int .i64 w] [] (fun v X => v = .int .i64 (st w) ∧ X = []) := by
  dsimp only [Due] at h
  have e : quo ((w : Int) + 7) 8 = (st w : Int) := by rw [quo_nn (by omega)]; unfold st; omega
  have hb : st w ≤ 128 := by unfold st; omega
  refine tc0 env bitmap_stride_s (by rfl) ?_
  dsimp only [bitmap_stride_c]
  repeat' (first
    | refine GZy_i_y e ?_ ?_ ?_ ?_ ?_ ?_ ?_ ?_
    | with_reducible first | exact BzZq.mk | refine Tw.ret ?_ | refine ImZq.i fun h => ?_ | refine IkZq.i fun hk => ?_)
  exact ⟨rfl, congrArg (TV.int .i64) e, rfl⟩

theorem is_c (w h_1 : Nat) (d : List Int) (x y : Int) (k : Due (BmOk w h_1 d)) : TC R Try.prog bitmap_Is_f [.pel [.int .i64 w, .int .i64 h_1, .lst Ey d], .int .i64 x, .int .i64 y] [] (fun v X => v = .bool (px w h_1 d x y) ∧ X = []) := by
  dsimp only [Due] at k
  have hw := k.w1
  have hh := k.h1
  refine tc0 env bitmap_Is_s (by rfl) ?_
  dsimp only [bitmap_Is_c]
  by_cases hin : 0 ≤ x ∧ x < w ∧ 0 ≤ y ∧ y < h_1
  · obtain ⟨a, rfl⟩ : ∃ a : Nat, x = a := ⟨x.toNat, by omega⟩
    obtain ⟨b, rfl⟩ : ∃ b : Nat, y = b := ⟨y.toNat, by omega⟩
    have hl := at8_lt (w := w) (h := h_1) (x := a) (y := b) (by omega) (by omega)
    have hlen := k.len
    have hlb := len_bd hw hh
    have hby := k.byte (at8 w a b) (by omega)
    have q1 : quo (a : Int) 8 = ((a / 8 : Nat) : Int) := by rw [quo_nn (by omega)]; omega
    have q2 : rem (a : Int) 8 = ((a % 8 : Nat) : Int) := by rw [rem_nn (by omega)]; omega
    have q3 : (b : Int) * (st w : Int) + ((a / 8 : Nat) : Int) = ((at8 w a b : Nat) : Int) := by unfold at8; simp
    have q4 : 0 ≤ (b : Int) * (st w : Int) ∧ (b : Int) * (st w : Int) ≤ ((at8 w a b : Nat) : Int) := ⟨Int.mul_nonneg (by omega) (by omega), by omega⟩
    have q5 : (0 : Int) ≤ (128 : Int) / 2 ^ (a % 8) ∧ (128 : Int) / 2 ^ (a % 8) ≤ 255 := by
      rw [sh_pow (by omega)]
      have h7 : (2 : Nat) ^ (7 - a % 8) ≤ 2 ^ 7 := Nat.pow_le_pow_right (by omega) (by omega)
      generalize (2 : Nat) ^ (7 - a % 8) = m at *
      omega
    have sc := stride_c w (by unfold Due; omega)
    repeat' (first
      | ((with_reducible refine TDr.any ?_); refine TDr.callE env (by first | rfl | assumption) (by rfl) (by rfl) ?_ (sc) (by rfl) (by rfl) ?_)
      | refine GZy_i_y (And.intro q1 (And.intro q2 q3)) ?_ ?_ ?_ ?_ ?_ ?_ ?_ ?_
      | with_reducible first | exact BzZq.mk | refine Tw.ret ?_ | refine ImZq.i fun h => ?_ | refine IkZq.i fun hk => ?_)
    refine ⟨rfl, congrArg TV.bool ?_, rfl⟩
    rw [q1, q2, q3, Int.toNat_natCast, Int.toNat_natCast]
    have hb : (!decide (band (d.getD (at8 w a b) 0) ((128 : Int) / 2 ^ (a % 8)) = 0)) = bt (d.getD (at8 w a b) 0) (a % 8) := by
      simp only [band_bt (show a % 8 < 8 by omega)]
      cases bt (d.getD (at8 w a b) 0) (a % 8) <;> rfl
    have hd : decide (0 ≤ (a : Int) ∧ (a : Int) < w ∧ 0 ≤ (b : Int) ∧ (b : Int) < h_1) = true := decide_eq_true hin
    unfold px
    rw [hd, Int.toNat_natCast, Int.toNat_natCast, ← hb]
    simp only [hin, decide_true, Bool.true_and]
    rfl
  · rw [px_out hin]
    repeat' (first
      | refine GZp_i_y ?_ ?_ ?_ ?_ ?_ ?_ ?_ ?_
      | with_reducible first | exact BzZq.mk | refine Tw.ret ?_ | refine ImZq.i fun h => ?_ | refine IkZq.i fun hk => ?_)
    all_goals exact ⟨rfl, rfl, rfl⟩

theorem bCheck_c (W H : Int) (d : List Int) (hd : Due (∀ i, i < d.length → 0 ≤ d.getD i 0 ∧ d.getD i 0 ≤ 255)) : TC R Try.prog bitmap_Check_f [.agg [.int .i64 W, .int .i64 H, .lst Ey d]] [] (fun v X => v = .int .i64 (bitsE W H d) ∧ X = []) := by
  dsimp only [Due] at hd
  refine tc0 env bitmap_Check_s (by rfl) ?_
  dsimp only [bitmap_Check_c]
  by_cases hh : W < 1 ∨ 1024 < W ∨ H < 1 ∨ 1024 < H
  · repeat' (first
      | refine GZp_i_y ?_ ?_ ?_ ?_ ?_ ?_ ?_ ?_
      | with_reducible first | exact BzZq.mk | refine Tw.ret ?_ | refine ImZq.i fun h => ?_ | refine IkZq.i fun hk => ?_)
    exact ⟨rfl, by rw [bitsE, if_pos hh], rfl⟩
  obtain ⟨w, rfl⟩ : ∃ w : Nat, W = w := ⟨W.toNat, by omega⟩
  obtain ⟨k, rfl⟩ : ∃ k : Nat, H = k := ⟨H.toNat, by omega⟩
  have hw : 1 ≤ w ∧ w ≤ 1024 := by omega
  have hk : 1 ≤ k ∧ k ≤ 1024 := by omega
  have sc := stride_c w (by unfold Due; omega)
  have hlb := len_bd hw hk
  have sb := st_bd hw
  have e1 : (st w : Int) * (k : Int) = ((st w * k : Nat) : Int) := by simp
  by_cases hl : d.length = st w * k
  · obtain ⟨u, hu⟩ : ∃ u : Nat, u = 8 * st w - w := ⟨_, rfl⟩
    have hu7 : u ≤ 7 := by unfold st at hu; omega
    have hui : 8 * (st w : Int) - (w : Int) = (u : Int) := by unfold st at hu ⊢; omega
    have hp : (2 : Nat) ^ u ≤ 2 ^ 7 := Nat.pow_le_pow_right (by omega) hu7
    have hpp := Nat.two_pow_pos u
    have h2 : (2 : Int) ^ u = ((2 ^ u : Nat) : Int) := by simp
    have ev : bitsE w k d = @ite _ (∀ y, y < k → band (d.getD (y * st w + st w - 1) 0) ((2 ^ u - 1 : Nat) : Int) = 0) (Classical.propDecidable _) 0 4 := by
      rw [bitsE, if_neg hh, if_neg (by simpa using hl)]
      simp only [Int.toNat_natCast]
      congr 1
      apply propext
      have cond : ∀ b : Nat, w ≤ 8 * (st w - 1) + b ↔ 8 - u ≤ b := fun b => by unfold st at hu ⊢; omega
      constructor
      · intro h y hy
        obtain ⟨g1, g2⟩ := at_last (w := w) hy (by omega)
        rw [band_low (hd _ (by rw [hl]; exact g1)) hu7]
        intro b hb hc
        rw [← g2]; exact h y b hy hb ((cond b).2 hc)
      · intro h y b hy hb hc
        obtain ⟨g1, g2⟩ := at_last (w := w) hy (by omega)
        rw [g2]
        exact (band_low (hd _ (by rw [hl]; exact g1)) hu7).1 (h y hy) b hb ((cond b).1 hc)
    have e4 : ((1 * 2 ^ u : Int) % 256 - 1) % 256 = ((2 ^ u - 1 : Nat) : Int) := by
      rw [h2]
      generalize (2 : Nat) ^ u = m at *
      omega
    rw [ev]
    clear ev
    generalize hM : 2 ^ u - 1 = M at *
    have hM7 : M ≤ 127 := by omega
    have hidx : ∀ y, y < k → y * st w + st w - 1 < st w * k := fun y hy => (at_last hy (by omega)).1
    have hyb : ∀ y, y < k → y * st w ≤ 131072 := fun y hy => by have := hidx y hy; omega
    repeat' (first
      | ((with_reducible refine TOps.any ?_); refine TOps.callV env (by rfl) (by rfl) (by rfl) (sc) ?_)
      | refine GZy_i_y (And.intro hui (And.intro e1 (And.intro e4 hl))) ?_ ?_ ?_ ?_ ?_ ?_ ?_ ?_
      | with_reducible first | exact BzZq.mk | refine Tw.ret ?_ | refine ImZq.i fun h => ?_ | refine IkZq.i fun hk => ?_)
    · refine Tw.loopK [1, 3, 4, 45] (fun y : Nat => y ≤ k ∧ ∀ j, j < y → band (d.getD (j * st w + st w - 1) 0) (M : Int) = 0) (fun y => k - y) (fun y => [(46, .int .i64 y)]) (fun _ => [some (.cells [.int .i64 w, .int .i64 k, .lst Ey d])]) ⟨0, ⟨by omega, fun j hj => by omega⟩, TWk.fcanon env [some 0] (by rfl) ?_⟩ (fun y hy => ?_)
      · repeat' (first
          | with_reducible first | exact Conj.nil | refine Conj.cons rfl ?_ | refine Conj.same ?_ | refine Conj.ask ?_ ?_
          | ((with_reducible refine Due.mk ?_); (first | with_reducible rfl | omega | assumption | decide | ((try simp only [goS] at *) <;> (try intro h) <;> (try intro h') <;> (try simp only [goS] at *) <;> (try simp only [rdi, rdy, Int.toNat_natCast, Nat.add_zero] at *) <;> (try simp only [rng]) <;> (first | assumption | omega)) | (exact due_app0 (by omega)) | (exact due_app (by omega)) | (intros; simp; done) | (intros; simp; omega)))
          | with_reducible refine Due.mk ?_
          | omega)
      obtain ⟨hy, hq⟩ := hy
      rcases Nat.lt_or_ge y k with hy | hy
      · have i1 := hidx y hy
        have i2 := hyb y hy
        have e5 : (y : Int) * (st w : Int) = ((y * st w : Nat) : Int) := by simp
        have e6 : ((y * st w : Nat) : Int) + (st w : Int) - 1 = ((y * st w + st w - 1 : Nat) : Int) := by omega
        have i3 := hd (y * st w + st w - 1) (by omega)
        repeat' (first
          | refine GZy_i_y (And.intro hui (And.intro e4 (And.intro e5 e6))) ?_ ?_ ?_ ?_ ?_ ?_ ?_ ?_
          | with_reducible first | exact BzZq.mk | refine Tw.ret ?_ | refine ImZq.i fun h => ?_ | refine IkZq.i fun hk => ?_)
        · exact ⟨rfl, by rw [if_neg fun hh => h (hh y hy)], rfl⟩
        · refine ⟨y + 1, ⟨by omega, fun j hj => ?_⟩, by omega, TWk.fcanon env [some 0] (by rfl) ?_⟩
          · by_cases e : j = y
            · subst e; exact h
            · exact hq j (by omega)
          · repeat' (first
              | refine GZ_i_y ?_ ?_ ?_ ?_ ?_ ?_ ?_ ?_
              | with_reducible first | exact BzZq.mk | refine Tw.ret ?_ | refine ImZq.i fun h => ?_ | refine IkZq.i fun hk => ?_)
      · repeat' (first
          | refine GZp_i_y ?_ ?_ ?_ ?_ ?_ ?_ ?_ ?_
          | with_reducible first | exact BzZq.mk | refine Tw.ret ?_ | refine ImZq.i fun h => ?_ | refine IkZq.i fun hk => ?_)
        exact ⟨rfl, by rw [if_pos fun j hj => hq j (by omega)], rfl⟩
    · have hM0 : M = 0 := by omega
      refine ⟨rfl, ?_, rfl⟩
      rw [if_pos]
      intro y hy
      rw [hM0]
      simp [band]
  · have ev : bitsE w k d = 4 := by rw [bitsE, if_neg hh, if_pos (by simpa using hl)]
    repeat' (first
      | ((with_reducible refine TOps.any ?_); refine TOps.callV env (by rfl) (by rfl) (by rfl) (sc) ?_)
      | refine GZy_i_y e1 ?_ ?_ ?_ ?_ ?_ ?_ ?_ ?_
      | with_reducible first | exact BzZq.mk | refine Tw.ret ?_ | refine ImZq.i fun h => ?_ | refine IkZq.i fun hk => ?_)
    exact ⟨rfl, by rw [ev], rfl⟩
theorem bCheck_y (w h : Nat) (d : List Int) (k : Due (BmOk w h d)) : TC R Try.prog bitmap_Check_f [.agg [.int .i64 w, .int .i64 h, .lst Ey d]] [] (fun v X => v = .int .i64 0 ∧ X = []) := by
  have := bCheck_c w h d k.byte
  rwa [(bitsE_ok k.byte).2 ⟨w, h, rfl, rfl, k⟩] at this
end Go.Proofs.Ythkilkjngincpaa
