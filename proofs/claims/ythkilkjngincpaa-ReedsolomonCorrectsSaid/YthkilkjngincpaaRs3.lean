/- Reed-Solomon: the sums of a word, Valid and Encode. -/
import Derived.Test.YthkilkjngincpaaRs2
import Derived.Test.YthkilkjngincpaaGo
namespace Go.Proofs.Ythkilkjngincpaa
open Go Go.Lite
set_option linter.unusedVariables false
set_option linter.unusedSimpArgs false
set_option maxRecDepth 100000
set_option maxHeartbeats 4000000
-- @simp rdi rdy

theorem synd_r (f : Nat → BitVec 8) (n t : Nat) (ht : Due (t ≤ 64 ∧ n ≤ 255)) : TC R Try.prog reedsolomon_syndromes_f [.lst Ey (btab n f), .int .i64 t] []
    (fun v X => v = .tup [.sla 1 0 0 t, .bool (decide (∀ i, i < t → hor (rt i) f n = 0#8))] ∧ X = [some (.arr Ey (btab t fun i => hor (rt i) f n))]) := by
  dsimp only [Due] at ht
  have nl : (btab n f).length = n := btab_len
  refine tc env reedsolomon_syndromes_s (by rfl) ?_
  dsimp only [reedsolomon_syndromes_c]
  repeat' (first
    | refine GZy_i_y nl ?_ ?_ ?_ ?_ ?_ ?_ ?_ ?_
    | with_reducible first | exact BzZq.mk | refine Tw.ret ?_ | refine ImZq.i fun h => ?_ | refine IkZq.i fun hk => ?_)
  rw [Int.toNat_natCast]
  have fl : ∀ g, (btab t g).length = t := fun _ => btab_len
  refine Tw.loopK [0, 1, 6, 16] (fun q : Nat × Bool => q.1 ≤ t ∧ (q.2 = true ↔ ∀ i, i < q.1 → hor (rt i) f n = 0#8)) (fun q => t - q.1) (fun q => [(17, .int .i64 q.1), (7, .bool q.2)]) (fun q => [some (.arr Ey (btab t fun i => if i < q.1 then hor (rt i) f n else 0#8))])
    ⟨(0, true), ⟨by dsimp only; omega, ⟨fun _ i hi => by dsimp only at hi; omega, fun _ => rfl⟩⟩, TWk.fcanon env [some 0] (by rfl) ?_⟩ (fun q hq => ?_)
  · have z : (btab t fun i => if i < 0 then hor (rt i) f n else 0#8) = List.replicate t 0 := by
      rw [btab_zero]
      exact btab_congr fun k _ => if_neg (by omega)
    repeat' (first
      | exact z
      | refine GZ_i_y ?_ ?_ ?_ ?_ ?_ ?_ ?_ ?_
      | with_reducible first | exact BzZq.mk | refine Tw.ret ?_ | refine ImZq.i fun h => ?_ | refine IkZq.i fun hk => ?_)
  obtain ⟨i, b⟩ := q
  dsimp only at hq ⊢
  obtain ⟨hi, hb⟩ := hq
  rcases Nat.lt_or_ge i t with hi | hi
  · have rc := root_c i (by unfold Due; omega)
    repeat' (first
      | ((with_reducible refine TOps.any ?_); refine TOps.callV env (by rfl) (by rfl) (by rfl) (rc) ?_)
      | refine GZy_i_y nl ?_ ?_ ?_ ?_ ?_ ?_ ?_ ?_
      | with_reducible first | exact BzZq.mk | refine Tw.ret ?_ | refine ImZq.i fun h => ?_ | refine IkZq.i fun hk => ?_)
    refine Tw.loopK [0, 1, 6, 7, 8, 9, 16, 17, 22, 23] (fun k : Nat => k ≤ n) (fun k => n - k) (fun k => [(24, .int .i64 k), (10, .int .u8 (by8 (hor (rt i) f k)))]) (fun _ => [some (.arr Ey (btab t fun i' => if i' < i then hor (rt i') f n else 0#8))])
      ⟨0, by omega, TWk.fcanon env [some 0] (by rfl) ?_⟩ (fun k hk => ?_)
    · repeat' (first
        | with_reducible first | exact Conj.nil | refine Conj.cons rfl ?_ | refine Conj.same ?_ | refine Conj.ask ?_ ?_
        | ((with_reducible refine Due.mk ?_); (first | with_reducible rfl | omega | assumption | decide | ((try simp only [goS] at *) <;> (try intro h) <;> (try intro h') <;> (try simp only [goS] at *) <;> (try simp only [rdi, rdy, Int.toNat_natCast, Nat.add_zero] at *) <;> (try simp only [rng]) <;> (first | assumption | omega)) | (exact due_app0 (by omega)) | (exact due_app (by omega)) | (intros; simp; done) | (intros; simp; omega)))
        | with_reducible refine Due.mk ?_
        | omega)
    rcases Nat.lt_or_ge k n with hk | hk
    · have gk : (btab n f).getD k 0 = by8 (f k) := btab_get hk
      have mc := mul_c (hor (rt i) f k) (rt i)
      have b1 := by8_bd (mulF (hor (rt i) f k) (rt i))
      have b2 := by8_bd (f k)
      have e1 : by8 (hor (rt i) f (k + 1)) = bxor (by8 (mulF (hor (rt i) f k) (rt i))) ((btab n f).getD (k : Int).toNat 0) := by
        rw [Int.toNat_natCast, gk, by8_xor]; rfl
      repeat' (first
        | ((with_reducible refine TOps.any ?_); refine TOps.callV env (by rfl) (by rfl) (by rfl) (mc) ?_)
        | refine GZy_i_y (And.intro nl gk) ?_ ?_ ?_ ?_ ?_ ?_ ?_ ?_
        | with_reducible first | exact BzZq.mk | refine Tw.ret ?_ | refine ImZq.i fun h => ?_ | refine IkZq.i fun hk => ?_)
      refine ⟨k + 1, by omega, by omega, TWk.fcanon env [some 0] (by rfl) ?_⟩
      repeat' (first
        | exact e1
        | with_reducible first | exact Conj.nil | refine Conj.cons rfl ?_ | refine Conj.same ?_ | refine Conj.ask ?_ ?_
        | ((with_reducible refine Due.mk ?_); (first | with_reducible rfl | omega | assumption | decide | ((try simp only [goS] at *) <;> (try intro h) <;> (try intro h') <;> (try simp only [goS] at *) <;> (try simp only [rdi, rdy, Int.toNat_natCast, Nat.add_zero] at *) <;> (try simp only [rng]) <;> (first | assumption | omega)) | (exact due_app0 (by omega)) | (exact due_app (by omega)) | (intros; simp; done) | (intros; simp; omega)))
        | with_reducible refine Due.mk ?_
        | omega)
    · obtain rfl : k = n := by omega
      have b1 := by8_bd (hor (rt i) f k)
      have r1 : (btab t fun i' => if i' < i then hor (rt i') f k else 0#8).set (i : Int).toNat (by8 (hor (rt i) f k)) = btab t fun i' => if i' < i + 1 then hor (rt i') f k else 0#8 := by
        rw [Int.toNat_natCast]
        refine btab_set (by rw [if_pos (by omega)]) fun k' _ hk' => ?_
        by_cases h : k' < i
        · rw [if_pos h, if_pos (by omega)]
        · rw [if_neg h, if_neg (by omega)]
      by_cases hz : hor (rt i) f k = 0#8
      · have hz2 : by8 (hor (rt i) f k) = 0 := by8_zero.2 hz
        have hd : decide (by8 (hor (rt i) f k) = 0) = true := decide_eq_true hz2
        cases b with
        | true =>
          repeat' (first
            | refine GZy_i_y fl ?_ ?_ ?_ ?_ ?_ ?_ ?_ ?_
            | with_reducible first | exact BzZq.mk | refine Tw.ret ?_ | refine ImZq.i fun h => ?_ | refine IkZq.i fun hk => ?_)
          refine ⟨(i + 1, true), ⟨by dsimp only; omega, ⟨fun _ i' hi' => ?_, fun _ => rfl⟩⟩, by dsimp only; omega, TWk.fcanon env [some 0] (by rfl) ?_⟩
          · dsimp only at hi'
            by_cases e : i' = i
            · subst e; exact hz
            · exact hb.1 rfl i' (by omega)
          · repeat' (first
              | exact r1.symm
              | exact hd.symm
              | refine GZ_i_y ?_ ?_ ?_ ?_ ?_ ?_ ?_ ?_
              | with_reducible first | exact BzZq.mk | refine Tw.ret ?_ | refine ImZq.i fun h => ?_ | refine IkZq.i fun hk => ?_)
        | false =>
          repeat' (first
            | refine GZy_i_y fl ?_ ?_ ?_ ?_ ?_ ?_ ?_ ?_
            | with_reducible first | exact BzZq.mk | refine Tw.ret ?_ | refine ImZq.i fun h => ?_ | refine IkZq.i fun hk => ?_)
          refine ⟨(i + 1, false), ⟨by dsimp only; omega, ⟨fun h => (by cases h), fun h => hb.2 fun i' hi' => h i' (by dsimp only; omega)⟩⟩, by dsimp only; omega, TWk.fcanon env [some 0] (by rfl) ?_⟩
          repeat' (first
            | exact r1.symm
            | with_reducible first | exact Conj.nil | refine Conj.cons rfl ?_ | refine Conj.same ?_ | refine Conj.ask ?_ ?_
            | ((with_reducible refine Due.mk ?_); (first | with_reducible rfl | omega | assumption | decide | ((try simp only [goS] at *) <;> (try intro h) <;> (try intro h') <;> (try simp only [goS] at *) <;> (try simp only [rdi, rdy, Int.toNat_natCast, Nat.add_zero] at *) <;> (try simp only [rng]) <;> (first | assumption | omega)) | (exact due_app0 (by omega)) | (exact due_app (by omega)) | (intros; simp; done) | (intros; simp; omega)))
            | with_reducible refine Due.mk ?_
            | omega)
      · have hz2 : by8 (hor (rt i) f k) ≠ 0 := fun h => hz (by8_zero.1 h)
        have hd : decide (by8 (hor (rt i) f k) = 0) = false := decide_eq_false hz2
        cases b with
        | true =>
          repeat' (first
            | refine GZy_i_y fl ?_ ?_ ?_ ?_ ?_ ?_ ?_ ?_
            | with_reducible first | exact BzZq.mk | refine Tw.ret ?_ | refine ImZq.i fun h => ?_ | refine IkZq.i fun hk => ?_)
          refine ⟨(i + 1, false), ⟨by dsimp only; omega, ⟨fun h => (by cases h), fun h => absurd (h i (by dsimp only; omega)) hz⟩⟩, by dsimp only; omega, TWk.fcanon env [some 0] (by rfl) ?_⟩
          repeat' (first
            | exact r1.symm
            | exact hd.symm
            | with_reducible first | exact Conj.nil | refine Conj.cons rfl ?_ | refine Conj.same ?_ | refine Conj.ask ?_ ?_
            | ((with_reducible refine Due.mk ?_); (first | with_reducible rfl | omega | assumption | decide | ((try simp only [goS] at *) <;> (try intro h) <;> (try intro h') <;> (try simp only [goS] at *) <;> (try simp only [rdi, rdy, Int.toNat_natCast, Nat.add_zero] at *) <;> (try simp only [rng]) <;> (first | assumption | omega)) | (exact due_app0 (by omega)) | (exact due_app (by omega)) | (intros; simp; done) | (intros; simp; omega)))
            | with_reducible refine Due.mk ?_
            | omega)
        | false =>
          repeat' (first
            | refine GZy_i_y fl ?_ ?_ ?_ ?_ ?_ ?_ ?_ ?_
            | with_reducible first | exact BzZq.mk | refine Tw.ret ?_ | refine ImZq.i fun h => ?_ | refine IkZq.i fun hk => ?_)
          refine ⟨(i + 1, false), ⟨by dsimp only; omega, ⟨fun h => (by cases h), fun h => hb.2 fun i' hi' => h i' (by dsimp only; omega)⟩⟩, by dsimp only; omega, TWk.fcanon env [some 0] (by rfl) ?_⟩
          repeat' (first
            | exact r1.symm
            | with_reducible first | exact Conj.nil | refine Conj.cons rfl ?_ | refine Conj.same ?_ | refine Conj.ask ?_ ?_
            | ((with_reducible refine Due.mk ?_); (first | with_reducible rfl | omega | assumption | decide | ((try simp only [goS] at *) <;> (try intro h) <;> (try intro h') <;> (try simp only [goS] at *) <;> (try simp only [rdi, rdy, Int.toNat_natCast, Nat.add_zero] at *) <;> (try simp only [rng]) <;> (first | assumption | omega)) | (exact due_app0 (by omega)) | (exact due_app (by omega)) | (intros; simp; done) | (intros; simp; omega)))
            | with_reducible refine Due.mk ?_
            | omega)
  · obtain rfl : i = t := by omega
    have eb : decide (∀ i', i' < i → hor (rt i') f n = 0#8) = b := by
      cases b with
      | true => exact decide_eq_true (hb.1 rfl)
      | false => exact decide_eq_false fun h => by have := hb.2 h; cases this
    have er : (btab i fun i' => if i' < i then hor (rt i') f n else 0#8) = btab i fun i' => hor (rt i') f n := btab_congr fun k hk => if_pos hk
    rw [eb, ← er]
    repeat' (first
      | ((with_reducible refine Tw.retI ?_); refine Tw.gc env [0] [4, 5] (by rfl) (by rfl) ?_ (Tw.ret ?_))
      | refine GZp_i_y ?_ ?_ ?_ ?_ ?_ ?_ ?_ ?_
      | with_reducible first | exact BzZq.mk | refine Tw.ret ?_ | refine ImZq.i fun h => ?_ | refine IkZq.i fun hk => ?_)
    all_goals exact ⟨rfl, rfl⟩
theorem rcheck_c (n t : Nat) (l : List Int) (hl : l.length = n) : TC R Try.prog reedsolomon_check_f [.lst Ey l, .int .i64 t] [] (fun v X => v = .int .i64 (if t < 1 ∨ 64 < t then 3 else if 255 < n then 2 else if n ≤ t then 12 else 0) ∧ X = []) := by
  subst hl
  refine tc0 env reedsolomon_check_s (by rfl) ?_
  dsimp only [reedsolomon_check_c]
  repeat' (first
    | refine GZp_i_y ?_ ?_ ?_ ?_ ?_ ?_ ?_ ?_
    | with_reducible first | exact BzZq.mk | refine Tw.ret ?_ | refine ImZq.i fun h => ?_ | refine IkZq.i fun hk => ?_)
  · rw [if_pos (by omega)]; exact ⟨rfl, rfl, rfl⟩
  · rw [if_neg (by omega), if_pos (by omega)]; exact ⟨rfl, rfl, rfl⟩
  · rw [if_neg (by omega), if_neg (by omega), if_pos (by omega)]; exact ⟨rfl, rfl, rfl⟩
  · rw [if_neg (by omega), if_neg (by omega), if_neg (by omega)]; exact ⟨rfl, rfl, rfl⟩
theorem valid_c (f : Nat → BitVec 8) (n t : Nat) (ht : Due (1 ≤ t ∧ t ≤ 64 ∧ t < n ∧ n ≤ 255)) : TC R Try.prog reedsolomon_Valid_f [.lst Ey (btab n f), .int .i64 t] []
    (fun v X => v = .tup [.bool (decide (∀ i, i < t → hor (rt i) f n = 0#8)), .int .i64 0] ∧ X = []) := by
  dsimp only [Due] at ht
  have rk := rcheck_c n t (btab n f) btab_len
  rw [if_neg (by omega), if_neg (by omega), if_neg (by omega)] at rk
  have sc := synd_r f n t (by unfold Due; omega)
  refine tc0 env reedsolomon_Valid_s (by rfl) ?_
  dsimp only [reedsolomon_Valid_c]
  repeat' (first
    | ((with_reducible refine TOps.any ?_); refine TOps.callV env (by rfl) (by rfl) (by rfl) (rk) ?_)
    | ((with_reducible refine TOps.any ?_); refine TOps.callV env (by rfl) (by rfl) (by rfl) (sc) ?_)
    | refine GZp_i_y ?_ ?_ ?_ ?_ ?_ ?_ ?_ ?_
    | with_reducible first | exact BzZq.mk | refine Tw.ret ?_ | refine ImZq.i fun h => ?_ | refine IkZq.i fun hk => ?_)
  all_goals exact ⟨rfl, rfl, rfl⟩
end Go.Proofs.Ythkilkjngincpaa
