/- Reed-Solomon: products and values of polynomials. -/
import Derived.Test.YthkilkjngincpaaMtx2
import Derived.Test.YthkilkjngincpaaRsO
import Derived.Test.YthkilkjngincpaaGo
namespace Go.Proofs.Ythkilkjngincpaa
open Go Go.Lite
set_option linter.unusedVariables false
set_option linter.unusedSimpArgs false
set_option maxRecDepth 100000
set_option maxHeartbeats 4000000
-- @simp rdi rdy rdo

def prS (p q : Nat → BitVec 8) (i m k : Nat) : BitVec 8 := prd p q i k ^^^ (if k < i + m then mulF (p i) (shf i q k) else 0#8)
theorem prod_r (p q : Nat → BitVec 8) (lp lq n lo : Nat) (hq : ∀ k, lq ≤ k → q k = 0#8) (hl : Due (1 ≤ lp ∧ lp ≤ 300 ∧ 1 ≤ lq ∧ lq ≤ 300 ∧ 1 ≤ n ∧ n ≤ 1000 ∧ lo = min n (lp + lq - 1))) :
    TC R Try.prog _reedsolomon_poly__times_f [.lst Ey (btab lp p), .lst Ey (btab lq q), .int .i64 n] [] (fun v X => v = .sla 1 0 0 lo ∧ X = [some (.arr Ey (btab lo (prd p q lp)))]) := by
  dsimp only [Due] at hl
  have pl : (btab lp p).length = lp := btab_len
  have ql : (btab lq q).length = lq := btab_len
  have e0 : (min (n : Int) ((lp : Int) + (lq : Int) - 1)).toNat = lo := by omega
  refine tc env _reedsolomon_poly__times_s (by rfl) ?_
  dsimp only [_reedsolomon_poly__times_c]
  repeat' (first
    | refine GZy_i_y_o (And.intro pl ql) ?_ ?_ ?_ ?_ ?_ ?_ ?_ ?_
    | with_reducible first | exact BzZq.mk | refine Tw.ret ?_ | refine ImZq.i fun h => ?_ | refine IkZq.i fun hk => ?_)
  rw [pl, ql, e0]
  have fl : ∀ f, (btab lo f).length = lo := fun _ => btab_len
  refine Tw.loopK [0, 1, 7, 21, 22] (fun i : Nat => i ≤ lp) (fun i => lp - i) (fun i => [(23, .int .i64 i)]) (fun i => [some (.arr Ey (btab lo (prd p q i)))])
    ⟨0, by omega, TWk.fcanon env [some 0] (by rfl) ?_⟩ (fun i hi => ?_)
  · have z : btab lo (prd p q 0) = List.replicate lo 0 := by rw [btab_zero]; exact btab_congr fun k _ => rfl
    repeat' (first
      | exact z
      | refine GZ_i_y_o ?_ ?_ ?_ ?_ ?_ ?_ ?_ ?_
      | with_reducible first | exact BzZq.mk | refine Tw.ret ?_ | refine ImZq.i fun h => ?_ | refine IkZq.i fun hk => ?_)
  rcases Nat.lt_or_ge i lp with hi | hi
  · have gi : (btab lp p).getD i 0 = by8 (p i) := btab_get hi
    repeat' (first
      | refine GZy_i_y_o pl ?_ ?_ ?_ ?_ ?_ ?_ ?_ ?_
      | with_reducible first | exact BzZq.mk | refine Tw.ret ?_ | refine ImZq.i fun h => ?_ | refine IkZq.i fun hk => ?_)
    rw [ql]
    refine Tw.loopK [0, 1, 7, 8, 9, 21, 22, 23, 28, 29] (fun m : Nat => m ≤ lq) (fun m => lq - m) (fun m => [(30, .int .i64 m)]) (fun m => [some (.arr Ey (btab lo (prS p q i m)))])
      ⟨0, by omega, TWk.fcanon env [some 0] (by rfl) ?_⟩ (fun m hm => ?_)
    · have z : btab lo (prS p q i 0) = btab lo (prd p q i) := btab_congr fun k _ => by
        unfold prS
        split
        · unfold shf; rw [if_neg (by omega), mulF_zeroR, BitVec.xor_zero]
        · exact BitVec.xor_zero
      repeat' (first
        | exact z
        | refine GZ_i_y_o ?_ ?_ ?_ ?_ ?_ ?_ ?_ ?_
        | with_reducible first | exact BzZq.mk | refine Tw.ret ?_ | refine ImZq.i fun h => ?_ | refine IkZq.i fun hk => ?_)
    rcases Nat.lt_or_ge m lq with hm | hm
    · have gm : (btab lq q).getD m 0 = by8 (q m) := btab_get hm
      have m1 := mul_c (p i) (q m)
      rw [← gi, ← gm] at m1
      have b3 := by8_bd (mulF (p i) (q m))
      rcases Nat.lt_or_ge (i + m) lo with hin | hin
      · have b1 := by8_bd (prS p q i m (i + m))
        have g1 : (btab lo (prS p q i m)).getD (i + m) 0 = by8 (prS p q i m (i + m)) := btab_get hin
        have k0 : ((i : Int) + (m : Int)).toNat = i + m := by omega
        have r1 : (btab lo (prS p q i m)).set (((i : Int) + (m : Int)).toNat + 0) (bxor ((btab lo (prS p q i m)).getD (((i : Int) + (m : Int)).toNat + 0) 0) (by8 (mulF (p i) (q m)))) = btab lo (prS p q i (m + 1)) := by
          rw [k0]; simp only [Nat.add_zero]; rw [g1, by8_xor]
          refine btab_set ?_ fun k _ hk => ?_
          · congr 1
            unfold prS
            rw [if_neg (show ¬ i + m < i + m by omega), if_pos (show i + m < i + (m + 1) by omega), BitVec.xor_zero]
            congr 2
            unfold shf
            rw [if_pos (by omega)]
            congr 1; omega
          · unfold prS
            by_cases h : k < i + m
            · rw [if_pos h, if_pos (by omega)]
            · rw [if_neg h, if_neg (by omega)]
        repeat' (first
          | ((with_reducible refine TDr.any ?_); refine TDr.callE env (by first | rfl | assumption) (by rfl) (by rfl) ?_ (m1) (by rfl) (by rfl) ?_)
          | refine GZy_i_y_o (And.intro pl (And.intro ql (And.intro fl (And.intro k0 g1)))) ?_ ?_ ?_ ?_ ?_ ?_ ?_ ?_
          | with_reducible first | exact BzZq.mk | refine Tw.ret ?_ | refine ImZq.i fun h => ?_ | refine IkZq.i fun hk => ?_)
        refine ⟨m + 1, by omega, by omega, TWk.fcanon env [some 0] (by rfl) ?_⟩
        repeat' (first
          | exact r1.symm
          | refine GZ_i_y_o ?_ ?_ ?_ ?_ ?_ ?_ ?_ ?_
          | with_reducible first | exact BzZq.mk | refine Tw.ret ?_ | refine ImZq.i fun h => ?_ | refine IkZq.i fun hk => ?_)
      · have r1 : btab lo (prS p q i (m + 1)) = btab lo (prS p q i m) := btab_congr fun k hk => by
          unfold prS
          rw [if_pos (by omega), if_pos (by omega)]
        repeat' (first
          | ((with_reducible refine TDr.any ?_); refine TDr.callE env (by first | rfl | assumption) (by rfl) (by rfl) ?_ (m1) (by rfl) (by rfl) ?_)
          | refine GZy_i_y_o (And.intro pl (And.intro ql fl)) ?_ ?_ ?_ ?_ ?_ ?_ ?_ ?_
          | with_reducible first | exact BzZq.mk | refine Tw.ret ?_ | refine ImZq.i fun h => ?_ | refine IkZq.i fun hk => ?_)
        refine ⟨m + 1, by omega, by omega, TWk.fcanon env [some 0] (by rfl) ?_⟩
        repeat' (first
          | exact r1
          | refine GZ_i_y_o ?_ ?_ ?_ ?_ ?_ ?_ ?_ ?_
          | with_reducible first | exact BzZq.mk | refine Tw.ret ?_ | refine ImZq.i fun h => ?_ | refine IkZq.i fun hk => ?_)
    · obtain rfl : m = lq := by omega
      have r1 : btab lo (prd p q (i + 1)) = btab lo (prS p q i m) := btab_congr fun k hk => by
        unfold prS
        show prd p q i k ^^^ mulF (p i) (shf i q k) = _
        split
        · rfl
        · congr 1
          unfold shf
          split
          · rw [hq _ (by omega), mulF_zeroR]
          · rw [mulF_zeroR]
      repeat' (first
        | refine GZp_i_y_o ?_ ?_ ?_ ?_ ?_ ?_ ?_ ?_
        | with_reducible first | exact BzZq.mk | refine Tw.ret ?_ | refine ImZq.i fun h => ?_ | refine IkZq.i fun hk => ?_)
      refine ⟨i + 1, by omega, by omega, TWk.fcanon env [some 0] (by rfl) ?_⟩
      repeat' (first
        | exact r1
        | refine GZ_i_y_o ?_ ?_ ?_ ?_ ?_ ?_ ?_ ?_
        | with_reducible first | exact BzZq.mk | refine Tw.ret ?_ | refine ImZq.i fun h => ?_ | refine IkZq.i fun hk => ?_)
  · obtain rfl : i = lp := by omega
    repeat' (first
      | ((with_reducible refine Tw.retI ?_); refine Tw.gc env [0] [6] (by rfl) (by rfl) ?_ (Tw.ret ?_))
      | refine GZp_i_y_o ?_ ?_ ?_ ?_ ?_ ?_ ?_ ?_
      | with_reducible first | exact BzZq.mk | refine Tw.ret ?_ | refine ImZq.i fun h => ?_ | refine IkZq.i fun hk => ?_)
    all_goals exact ⟨rfl, rfl⟩
theorem at_c (p : Nat → BitVec 8) (lp : Nat) (x : BitVec 8) (hl : Due (lp ≤ 1000)) :
    TC R Try.prog _reedsolomon_poly__at_f [.lst Ey (btab lp p), .int .u8 (by8 x)] [] (fun v X => v = .int .u8 (by8 (ev p lp x)) ∧ X = []) := by
  dsimp only [Due] at hl
  have pl : (btab lp p).length = lp := btab_len
  refine tc0 env _reedsolomon_poly__at_s (by rfl) ?_
  dsimp only [_reedsolomon_poly__at_c]
  repeat' (first
    | refine GZy_i_y_o pl ?_ ?_ ?_ ?_ ?_ ?_ ?_ ?_
    | with_reducible first | exact BzZq.mk | refine Tw.ret ?_ | refine ImZq.i fun h => ?_ | refine IkZq.i fun hk => ?_)
  rw [pl]
  refine Tw.loopK [0, 1] (fun u : Nat => u ≤ lp) (fun u => lp - u) (fun u => [(6, .int .i64 ((lp : Int) - 1 - u)), (5, .int .u8 (by8 (hor x (fun a => p (lp - 1 - a)) u)))]) (fun _ => [])
    ⟨0, by omega, TWk.fcanon env [] (by rfl) ?_⟩ (fun u hu => ?_)
  · have z : (lp : Int) - 1 - ((0 : Nat) : Int) = (lp : Int) - 1 := by omega
    repeat' (first
      | exact z
      | exact z.symm
      | exact rfl
      | refine GZ_i_y_o ?_ ?_ ?_ ?_ ?_ ?_ ?_ ?_
      | with_reducible first | exact BzZq.mk | refine Tw.ret ?_ | refine ImZq.i fun h => ?_ | refine IkZq.i fun hk => ?_)
  rcases Nat.lt_or_ge u lp with hu | hu
  · have k0 : ((lp : Int) - 1 - (u : Int)).toNat = lp - 1 - u := by omega
    have g1 : (btab lp p).getD (lp - 1 - u) 0 = by8 (p (lp - 1 - u)) := btab_get (by omega)
    have mc := mul_c (hor x (fun a => p (lp - 1 - a)) u) x
    have b1 := by8_bd (p (lp - 1 - u))
    have b2 := by8_bd (mulF (hor x (fun a => p (lp - 1 - a)) u) x)
    have hs : by8 (hor x (fun a => p (lp - 1 - a)) (u + 1)) = bxor (by8 (mulF (hor x (fun a => p (lp - 1 - a)) u) x)) ((btab lp p).getD ((lp : Int) - 1 - (u : Int)).toNat 0) := by
      rw [k0, g1, by8_xor]; rfl
    repeat' (first
      | ((with_reducible refine TDr.any ?_); refine TDr.callE env (by first | rfl | assumption) (by rfl) (by rfl) ?_ (mc) (by rfl) (by rfl) ?_)
      | refine GZy_i_y_o (And.intro pl (And.intro k0 g1)) ?_ ?_ ?_ ?_ ?_ ?_ ?_ ?_
      | with_reducible first | exact BzZq.mk | refine Tw.ret ?_ | refine ImZq.i fun h => ?_ | refine IkZq.i fun hk => ?_)
    refine ⟨u + 1, by omega, by omega, TWk.fcanon env [] (by rfl) ?_⟩
    have z : (lp : Int) - 1 - ((u + 1 : Nat) : Int) = (lp : Int) - 1 - (u : Int) - 1 := by omega
    repeat' (first
      | exact z
      | exact z.symm
      | exact hs
      | refine GZ_i_y_o ?_ ?_ ?_ ?_ ?_ ?_ ?_ ?_
      | with_reducible first | exact BzZq.mk | refine Tw.ret ?_ | refine ImZq.i fun h => ?_ | refine IkZq.i fun hk => ?_)
  · obtain rfl : u = lp := by omega
    have he := hor_rev x p u
    repeat' (first
      | refine GZp_i_y_o ?_ ?_ ?_ ?_ ?_ ?_ ?_ ?_
      | with_reducible first | exact BzZq.mk | refine Tw.ret ?_ | refine ImZq.i fun h => ?_ | refine IkZq.i fun hk => ?_)
    rw [he]
    exact ⟨rfl, rfl, rfl⟩
end Go.Proofs.Ythkilkjngincpaa
