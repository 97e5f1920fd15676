/- Reed-Solomon: Decode of a word without errors. -/
import Derived.Test.YthkilkjngincpaaBits1
import Derived.Test.YthkilkjngincpaaGo
namespace Go.Proofs.Ythkilkjngincpaa
open Go Go.Lite
set_option linter.unusedVariables false
set_option linter.unusedSimpArgs false
set_option maxRecDepth 100000
set_option maxHeartbeats 4000000
-- @simp rdi rdy rdo

theorem rsClean_c (f : Nat → BitVec 8) (n t : Nat) (ht : Due (1 ≤ t ∧ t ≤ 64 ∧ t < n ∧ n ≤ 255)) (hz : Due (∀ i, i < t → hor (rt i) f n = 0#8)) :
    TC R Try.prog reedsolomon_Decode_f [.lst Ey (btab n f), .int .i64 t, .nils] [] (fun v X => v = .tup [.lst Ey (btab n f), .int .i64 0, .int .i64 0] ∧ X = []) := by
  dsimp only [Due] at ht hz
  have nl : (btab n f).length = n := btab_len
  have rk := rcheck_c n t (btab n f) btab_len
  rw [if_neg (by omega), if_neg (by omega), if_neg (by omega)] at rk
  have sc := synd_r f n t (by unfold Due; omega)
  rw [decide_eq_true hz] at sc
  refine tc0 env reedsolomon_Decode_s (by rfl) ?_
  dsimp only [reedsolomon_Decode_c]
  repeat' (first
    | ((with_reducible refine TOps.any ?_); refine TOps.callV env (by rfl) (by rfl) (by rfl) (rk) ?_)
    | refine GZy_i_y_o nl ?_ ?_ ?_ ?_ ?_ ?_ ?_ ?_
    | with_reducible first | exact BzZq.mk | refine Tw.ret ?_ | refine ImZq.i fun h => ?_ | refine IkZq.i fun hk => ?_)
  refine Tw.loopK [0, 1, 2, 6, 31, 32] (fun _ : Nat => True) (fun i => i) (fun _ => [(33, .int .i64 0), (10, .sla 1 0 0 n)]) (fun _ => [some (.arr Eo (List.replicate n false))])
    ⟨0, trivial, TWk.fcanon env [some 0] (by rfl) ?_⟩ (fun _ _ => ?_)
  · have e0 : ((btab n f).length : Int).toNat = n := by rw [nl, Int.toNat_natCast]
    repeat' (first
      | with_reducible first | exact Conj.nil | refine Conj.cons rfl ?_ | refine Conj.same ?_ | refine Conj.ask ?_ ?_
      | ((with_reducible refine Due.mk ?_); (first | with_reducible rfl | omega | assumption | decide | ((try simp only [goS] at *) <;> (try intro h) <;> (try intro h') <;> (try simp only [goS] at *) <;> (try simp only [rdi, rdy, rdo, e0, Int.toNat_natCast, Nat.add_zero] at *) <;> (try simp only [rng]) <;> (first | assumption | omega)) | (exact due_app0 (by omega)) | (exact due_app (by omega)) | (intros; simp; done) | (intros; simp; omega)))
      | with_reducible refine Due.mk ?_
      | omega)
  have hq : ((btab n f).length) * 1 ≤ 140737488355328 ∧ (btab n f).length ≤ 140737488355328 := by rw [nl]; omega
  repeat' (first
    | ((with_reducible refine TOps.any ?_); refine TOps.callV env (by rfl) (by rfl) (by rfl) (sc) ?_)
    | ((with_reducible refine Tw.retI ?_); refine Tw.frz env 1 (by rfl) (by rfl) (by rfl) ?_ ?_ (Tw.ret ?_))
    | refine GZy_i_y_o nl ?_ ?_ ?_ ?_ ?_ ?_ ?_ ?_
    | with_reducible first | exact BzZq.mk | refine Tw.ret ?_ | refine ImZq.i fun h => ?_ | refine IkZq.i fun hk => ?_)
  rw [show cut (btab n f) 0 (btab n f).length = btab n f from cut_all rfl]
  exact ⟨rfl, rfl, rfl⟩
end Go.Proofs.Ythkilkjngincpaa
