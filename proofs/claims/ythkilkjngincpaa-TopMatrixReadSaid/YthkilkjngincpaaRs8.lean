/- Reed-Solomon: repair, walked. -/
import Derived.Test.YthkilkjngincpaaRs7
import Derived.Test.YthkilkjngincpaaGo
namespace Go.Proofs.Ythkilkjngincpaa
open Go Go.Lite
set_option linter.unusedVariables false
set_option linter.unusedSimpArgs false
set_option maxRecDepth 100000
set_option maxHeartbeats 4000000
-- @simp rdi rdy rdo

/-- What repair adds at a place. -/
def corr (N t lc : Nat) (S C : Nat → BitVec 8) (i : Nat) : BitVec 8 :=
  if ev C lc (eY N i) ≠ 0#8 then 0#8 else if slo C (eY N i) (lc / 2) = 0#8 then 0#8 else mulF (mulF (eX N i) (ev (prd S C t) t (eY N i))) (iv (slo C (eY N i) (lc / 2)))
theorem repair_c (N t lc : Nat) (f S C : Nat → BitVec 8) (hz : ∀ k, lc ≤ k → C k = 0#8) (hb : Due (1 ≤ N ∧ N ≤ 255 ∧ 1 ≤ t ∧ t ≤ 64 ∧ 1 ≤ lc ∧ lc ≤ 300)) :
    TC R Try.prog reedsolomon_repair_f [.sla 1 0 0 N, .lst Ey (btab t S), .lst Ey (btab lc C)] [some (.arr Ey (btab N f))] (fun v X => v = .tup [] ∧ X = [some (.arr Ey (btab N fun i => f i ^^^ corr N t lc S C i))]) := by
  dsimp only [Due] at hb
  have sl : (btab t S).length = t := btab_len
  have cl : (btab lc C).length = lc := btab_len
  have nl : ∀ g, (btab N g).length = N := fun _ => btab_len
  have pc := prod_r S C t lc t t hz (by unfold Due; omega)
  refine tc env reedsolomon_repair_s (by rfl) ?_
  dsimp only [reedsolomon_repair_c]
  have tl : (btab t (prd S C t)).length = t := btab_len
  repeat' (first
    | refine GZy_i_y_o (And.intro sl cl) ?_ ?_ ?_ ?_ ?_ ?_ ?_ ?_
    | with_reducible first | exact BzZq.mk | refine Tw.ret ?_ | refine ImZq.i fun h => ?_ | refine IkZq.i fun hk => ?_)
  rw [sl]
  repeat' (first
    | ((with_reducible refine TOps.any ?_); refine TOps.callV env (by rfl) (by rfl) (by rfl) (pc) ?_)
    | refine GZy_i_y_o (And.intro sl cl) ?_ ?_ ?_ ?_ ?_ ?_ ?_ ?_
    | with_reducible first | exact BzZq.mk | refine Tw.ret ?_ | refine ImZq.i fun h => ?_ | refine IkZq.i fun hk => ?_)
  refine Tw.frz env 1 (by rfl) (by rfl) (by rfl) ?_ ?_ ?_
  · repeat' (first
      | refine GZx_i_y_o tl ?_ ?_ ?_ ?_ ?_ ?_ ?_ ?_
      | with_reducible first | exact BzZq.mk | refine Tw.ret ?_ | refine ImZq.i fun h => ?_ | refine IkZq.i fun hk => ?_)
  · repeat' (first
      | refine GZx_i_y_o tl ?_ ?_ ?_ ?_ ?_ ?_ ?_ ?_
      | with_reducible first | exact BzZq.mk | refine Tw.ret ?_ | refine ImZq.i fun h => ?_ | refine IkZq.i fun hk => ?_)
  rw [show cut (btab t (prd S C t)) 0 t = btab t (prd S C t) from cut_tab]
  refine Tw.loopK [0, 1, 2, 6, 18] (fun i : Nat => i ≤ N) (fun i => N - i) (fun i => [(19, .int .i64 i)]) (fun i => [some (.arr Ey (btab N fun j => if j < i then f j ^^^ corr N t lc S C j else f j))])
    ⟨0, by omega, TWk.fcanon env [some 0] (by rfl) ?_⟩ (fun i hi => ?_)
  · have z : (btab N fun j => if j < 0 then f j ^^^ corr N t lc S C j else f j) = btab N f := btab_congr fun k _ => if_neg (by omega)
    repeat' (first
      | exact z
      | exact z.symm
      | refine GZ_i_y_o ?_ ?_ ?_ ?_ ?_ ?_ ?_ ?_
      | with_reducible first | exact BzZq.mk | refine Tw.ret ?_ | refine ImZq.i fun h => ?_ | refine IkZq.i fun hk => ?_)
  rcases Nat.lt_or_ge i N with hi | hi
  · have p1 := pow_c 2#8 (N - 1 - i) (by unfold Due; omega)
    have q1 : ((N - 1 - i : Nat) : Int) = (N : Int) - 1 - i := by omega
    rw [q1] at p1
    have eXi : pw 2#8 (N - 1 - i) = eX N i := rfl
    rw [eXi] at p1
    have p2 := inv_c (eX N i)
    have eYi : iv (eX N i) = eY N i := rfl
    rw [eYi] at p2
    have ac := at_c C lc (eY N i) (by unfold Due; omega)
    have bv := by8_bd (ev C lc (eY N i))
    have e2 : by8 2#8 = 2 := rfl
    rw [e2] at p1
    have nxt0 : corr N t lc S C i = 0#8 → (btab N fun j => if j < i + 1 then f j ^^^ corr N t lc S C j else f j) = btab N fun j => if j < i then f j ^^^ corr N t lc S C j else f j := fun h => btab_congr fun k hk => by
      by_cases e : k = i
      · subst e; rw [if_pos (by omega), if_neg (by omega), h, BitVec.xor_zero]
      · by_cases h2 : k < i
        · rw [if_pos (by omega), if_pos h2]
        · rw [if_neg (by omega), if_neg h2]
    by_cases hv : ev C lc (eY N i) = 0#8
    · have hv8 : by8 (ev C lc (eY N i)) = 0 := by8_zero.2 hv
      repeat' (first
        | ((with_reducible refine TOps.any ?_); refine TOps.callV env (by rfl) (by rfl) (by rfl) (p1) ?_)
        | ((with_reducible refine TOps.any ?_); refine TOps.callV env (by rfl) (by rfl) (by rfl) (p2) ?_)
        | ((with_reducible refine TOps.any ?_); refine TOps.callV env (by rfl) (by rfl) (by rfl) (ac) ?_)
        | refine GZy_i_y_o nl ?_ ?_ ?_ ?_ ?_ ?_ ?_ ?_
        | with_reducible first | exact BzZq.mk | refine Tw.ret ?_ | refine ImZq.i fun h => ?_ | refine IkZq.i fun hk => ?_)
      refine Tw.loopK [0, 1, 2, 6, 7, 8, 9, 18, 19] (fun u : Nat => u ≤ lc / 2) (fun u => lc / 2 - u) (fun u => [(11, .int .i64 ((2 * u + 1 : Nat) : Int)), (10, .int .u8 (by8 (slo C (eY N i) u)))])
        (fun _ => [some (.arr Ey (btab N fun j => if j < i then f j ^^^ corr N t lc S C j else f j))]) ⟨0, by omega, TWk.fcanon env [some 0] (by rfl) ?_⟩ (fun u hu => ?_)
      · repeat' (first
          | refine GZ_i_y_o ?_ ?_ ?_ ?_ ?_ ?_ ?_ ?_
          | with_reducible first | exact BzZq.mk | refine Tw.ret ?_ | refine ImZq.i fun h => ?_ | refine IkZq.i fun hk => ?_)
        all_goals rfl
      rcases Nat.lt_or_ge (2 * u + 1) lc with hu2 | hu2
      · have gc : (btab lc C).getD (2 * u + 1) 0 = by8 (C (2 * u + 1)) := btab_get hu2
        have pu := pow_c (eY N i) (2 * u) (by unfold Due; omega)
        have q2 : ((2 * u : Nat) : Int) = ((2 * u + 1 : Nat) : Int) - 1 := by omega
        rw [q2] at pu
        have mc := mul_c (C (2 * u + 1)) (pw (eY N i) (2 * u))
        rw [← gc] at mc
        have b1 := by8_bd (slo C (eY N i) u)
        have b2 := by8_bd (mulF (C (2 * u + 1)) (pw (eY N i) (2 * u)))
        have hs : by8 (slo C (eY N i) (u + 1)) = bxor (by8 (slo C (eY N i) u)) (by8 (mulF (C (2 * u + 1)) (pw (eY N i) (2 * u)))) := by rw [by8_xor]; rfl
        have z : ((2 * (u + 1) + 1 : Nat) : Int) = ((2 * u + 1 : Nat) : Int) + 2 := by omega
        repeat' (first
          | ((with_reducible refine TDr.any ?_); refine TDr.callE env (by first | rfl | assumption) (by rfl) (by rfl) ?_ (pu) (by rfl) (by rfl) ?_)
          | ((with_reducible refine TDr.any ?_); refine TDr.callE env (by first | rfl | assumption) (by rfl) (by rfl) ?_ (mc) (by rfl) (by rfl) ?_)
          | refine GZy_i_y_o cl ?_ ?_ ?_ ?_ ?_ ?_ ?_ ?_
          | with_reducible first | exact BzZq.mk | refine Tw.ret ?_ | refine ImZq.i fun h => ?_ | refine IkZq.i fun hk => ?_)
        refine ⟨u + 1, by omega, by omega, TWk.fcanon env [some 0] (by rfl) ?_⟩
        repeat' (first
          | exact z
          | exact z.symm
          | exact hs
          | refine GZ_i_y_o ?_ ?_ ?_ ?_ ?_ ?_ ?_ ?_
          | with_reducible first | exact BzZq.mk | refine Tw.ret ?_ | refine ImZq.i fun h => ?_ | refine IkZq.i fun hk => ?_)
      · obtain hul : u = lc / 2 := by omega
        have bs := by8_bd (slo C (eY N i) u)
        by_cases hsl : slo C (eY N i) u = 0#8
        · have hs8 : by8 (slo C (eY N i) u) = 0 := by8_zero.2 hsl
          have hc : corr N t lc S C i = 0#8 := by unfold corr; rw [if_neg (by simp [hv]), ← hul, if_pos hsl]
          repeat' (first
            | refine GZy_i_y_o cl ?_ ?_ ?_ ?_ ?_ ?_ ?_ ?_
            | with_reducible first | exact BzZq.mk | refine Tw.ret ?_ | refine ImZq.i fun h => ?_ | refine IkZq.i fun hk => ?_)
          refine ⟨i + 1, by omega, by omega, TWk.fcanon env [some 0] (by rfl) ?_⟩
          rw [nxt0 hc]
          repeat' (first
            | refine GZ_i_y_o ?_ ?_ ?_ ?_ ?_ ?_ ?_ ?_
            | with_reducible first | exact BzZq.mk | refine Tw.ret ?_ | refine ImZq.i fun h => ?_ | refine IkZq.i fun hk => ?_)
        · have hs8 : by8 (slo C (eY N i) u) ≠ 0 := fun h => hsl (by8_zero.1 h)
          have hc : corr N t lc S C i = mulF (mulF (eX N i) (ev (prd S C t) t (eY N i))) (iv (slo C (eY N i) u)) := by unfold corr; rw [if_neg (by simp [hv]), ← hul, if_neg hsl]
          have ao := at_c (prd S C t) t (eY N i) (by unfold Due; omega)
          have m1 := mul_c (eX N i) (ev (prd S C t) t (eY N i))
          have i1 := inv_c (slo C (eY N i) u)
          have m2 := mul_c (mulF (eX N i) (ev (prd S C t) t (eY N i))) (iv (slo C (eY N i) u))
          rw [← hc] at m2
          have gi : (btab N fun j => if j < i then f j ^^^ corr N t lc S C j else f j).getD i 0 = by8 (f i) := by rw [btab_get hi, if_neg (by omega)]
          have b3 := by8_bd (f i)
          have b4 := by8_bd (corr N t lc S C i)
          have r1 : (btab N fun j => if j < i then f j ^^^ corr N t lc S C j else f j).set ((i : Int).toNat + 0) (bxor ((btab N fun j => if j < i then f j ^^^ corr N t lc S C j else f j).getD ((i : Int).toNat + 0) 0) (by8 (corr N t lc S C i))) = btab N fun j => if j < i + 1 then f j ^^^ corr N t lc S C j else f j := by
            rw [Int.toNat_natCast]; simp only [Nat.add_zero]; rw [gi, by8_xor]
            refine btab_set (by rw [if_pos (show i < i + 1 by omega)]) fun k _ hk => ?_
            by_cases h : k < i
            · rw [if_pos h, if_pos (by omega)]
            · rw [if_neg h, if_neg (by omega)]
          repeat' (first
            | ((with_reducible refine TDr.any ?_); refine TDr.callE env (by first | rfl | assumption) (by rfl) (by rfl) ?_ (ao) (by rfl) (by rfl) ?_)
            | ((with_reducible refine TDr.any ?_); refine TDr.callE env (by first | rfl | assumption) (by rfl) (by rfl) ?_ (m1) (by rfl) (by rfl) ?_)
            | ((with_reducible refine TDr.any ?_); refine TDr.callE env (by first | rfl | assumption) (by rfl) (by rfl) ?_ (i1) (by rfl) (by rfl) ?_)
            | ((with_reducible refine TDr.any ?_); refine TDr.callE env (by first | rfl | assumption) (by rfl) (by rfl) ?_ (m2) (by rfl) (by rfl) ?_)
            | refine GZy_i_y_o (And.intro cl (And.intro nl gi)) ?_ ?_ ?_ ?_ ?_ ?_ ?_ ?_
            | with_reducible first | exact BzZq.mk | refine Tw.ret ?_ | refine ImZq.i fun h => ?_ | refine IkZq.i fun hk => ?_)
          refine ⟨i + 1, by omega, by omega, TWk.fcanon env [some 0] (by rfl) ?_⟩
          repeat' (first
            | exact r1
            | exact r1.symm
            | refine GZ_i_y_o ?_ ?_ ?_ ?_ ?_ ?_ ?_ ?_
            | with_reducible first | exact BzZq.mk | refine Tw.ret ?_ | refine ImZq.i fun h => ?_ | refine IkZq.i fun hk => ?_)
    · have hv8 : by8 (ev C lc (eY N i)) ≠ 0 := fun h => hv (by8_zero.1 h)
      have hc : corr N t lc S C i = 0#8 := by unfold corr; rw [if_pos hv]
      repeat' (first
        | ((with_reducible refine TOps.any ?_); refine TOps.callV env (by rfl) (by rfl) (by rfl) (p1) ?_)
        | ((with_reducible refine TOps.any ?_); refine TOps.callV env (by rfl) (by rfl) (by rfl) (p2) ?_)
        | ((with_reducible refine TOps.any ?_); refine TOps.callV env (by rfl) (by rfl) (by rfl) (ac) ?_)
        | refine GZy_i_y_o nl ?_ ?_ ?_ ?_ ?_ ?_ ?_ ?_
        | with_reducible first | exact BzZq.mk | refine Tw.ret ?_ | refine ImZq.i fun h => ?_ | refine IkZq.i fun hk => ?_)
      refine ⟨i + 1, by omega, by omega, TWk.fcanon env [some 0] (by rfl) ?_⟩
      rw [nxt0 hc]
      repeat' (first
        | refine GZ_i_y_o ?_ ?_ ?_ ?_ ?_ ?_ ?_ ?_
        | with_reducible first | exact BzZq.mk | refine Tw.ret ?_ | refine ImZq.i fun h => ?_ | refine IkZq.i fun hk => ?_)
  · obtain rfl : N = i := by omega
    have z : (btab N fun j => if j < N then f j ^^^ corr N t lc S C j else f j) = btab N fun j => f j ^^^ corr N t lc S C j := btab_congr fun k hk => if_pos hk
    rw [z]
    repeat' (first
      | refine GZp_i_y_o ?_ ?_ ?_ ?_ ?_ ?_ ?_ ?_
      | with_reducible first | exact BzZq.mk | refine Tw.ret ?_ | refine ImZq.i fun h => ?_ | refine IkZq.i fun hk => ?_)
    all_goals exact ⟨rfl, rfl⟩
end Go.Proofs.Ythkilkjngincpaa
