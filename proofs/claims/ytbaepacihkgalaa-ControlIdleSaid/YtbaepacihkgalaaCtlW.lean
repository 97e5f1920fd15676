/- The facts' controlWorks. -/
import Derived.Test.YtbaepacihkgalaaCtl5
import Derived.Test.YtbaepacihkgalaaCtl4
import Derived.Test.YtbaepacihkgalaaX0
import Derived.Test.YtbaepacihkgalaaGo
namespace Go.Proofs.Ytbaepacihkgalaa
open Go Go.Lite
set_option linter.unusedVariables false
set_option linter.unusedSimpArgs false
set_option maxRecDepth 100000
set_option maxHeartbeats 100000000
-- @simp rdi rd6i rdLiJ rd2i

def litH : List (Option (TRow A)) := [some (.cells [.int .i64 (1 : Int), .int .i64 (0 : Int), .int .i64 (5 : Int), .int .i64 (100 : Int), .lst Ei [(8000 : Int)], .sla 1 3 0 1, .sla 1 5 0 1]), none, none, some (.arr ELiJ [[(500 : Int)]]), none, some (.arr ELiJ [[(0 : Int)]])]
theorem little_c : TC R Try.prog K2_little_f [] [] (fun v X => v = .agg [.int .i64 (1 : Int), .int .i64 (0 : Int), .int .i64 (5 : Int), .int .i64 (100 : Int), .lst Ei [(8000 : Int)], .lst ELiJ [[(500 : Int)]], .lst ELiJ [[(0 : Int)]]] ∧ X = []) := by
  refine tc0 env K2_little_s (by rfl) ?_
  dsimp only [K2_little_c]
  repeat' (first
    | (refine Tw.retI (Tw.frz env 1 (by rfl) (by rfl) (by rfl) ?_ ?_ (Tw.frz env 2 (by rfl) (by rfl) (by rfl) ?_ ?_ (Tw.frz env 4 (by rfl) (by rfl) (by rfl) ?_ ?_ (Tw.reP (H' := litH) (by rfl) (Tw.frz env 3 (by rfl) (by rfl) (by rfl) ?_ ?_ (Tw.frz env 5 (by rfl) (by rfl) (by rfl) ?_ ?_ (Tw.ret ?_))))))))
    | with_reducible first | refine Tw.seq ?_ | refine Tw.reg ?_ | refine Tw.block ?_ | refine Tw.scope ?_ | refine Tw.skip ?_ | refine Tw.exit ?_ | refine Tw.ret ?_ | refine seqN ?_ | refine seqR ?_ | refine seqE ?_ | refine rndN ?_ | refine blkN ?_ | refine blkR ?_ | refine blkE1 ?_ | refine blkE0 (by kernel_rfl) ?_ | refine scpN ?_ | refine scpR ?_ | refine scpE ?_ | refine TOps.nil ?_ | exact Conj.nil | refine Conj.cons rfl ?_ | refine Conj.same ?_ | refine Conj.ask ?_ ?_ | refine Tw.regd env ?_ | refine TDr.nil ⟨by kernel_rfl, ?_⟩
    | ((with_reducible refine TOps.any ?_); first | refine TOps.frunP env (by rfl) (by rfl) ?_ ?_ | (refine TOps.known (by rfl) ?_; refine TOps.strip env (by rfl) (by rfl) ?_ ?_) | refine TOps.on (by rfl) (by rfl) ?_)
    | ((with_reducible refine TDr.any ?_); refine TDr.frunP env (by rfl) (by rfl) ?_ ?_)
    | ((with_reducible refine Tw.any ?_); first | refine Tw.condT (by rfl) ?_ | refine Tw.condF (by rfl) ?_)
    | ((first | ((with_reducible refine TOps.any ?_); (fail_if_success refine TOps.known (by rfl) ?_); refine TOps.ask (by rfl) (fun h => ?_) (fun h => ?_)) | ((with_reducible refine TDr.any ?_); (fail_if_success refine TDr.known (by first | rfl | assumption) ?_); refine TDr.ask (by rfl) (fun h hk => ?_) (fun h => ?_)) | ((with_reducible refine Tw.any ?_); refine Tw.cond (by rfl) (fun h => ?_) (fun h => ?_))) <;> (try simp only [goS] at h) <;> (try simp only [rdi, rd6i, rdLiJ, rd2i, Int.toNat_natCast, Nat.add_zero] at h) <;> (try (exfalso; (try simp only [goP, reduceCtorEq] at h) <;> (first | assumption | omega | contradiction | (rcases h with ⟨_, _⟩ <;> first | contradiction | omega) | (rcases h with h | h <;> first | contradiction | omega)))))
    | ((with_reducible refine tret.any ?_); first | refine tret.ok (by rfl) ?_ | refine tret.okN (by rfl) ?_)
    | ((with_reducible refine Due.mk ?_); (first | with_reducible rfl | omega | assumption | decide | ((try simp only [goS] at *) <;> (try intro h) <;> (try intro h') <;> (try simp only [goS] at *) <;> (try simp only [rdi, rd6i, rdLiJ, rd2i, Int.toNat_natCast, Nat.add_zero] at *) <;> (try simp only [rng]) <;> (first | assumption | omega)) | (exact due_app0 (by omega)) | (exact due_app (by omega)) | (intros; simp; done) | (intros; simp; omega)))
    | with_reducible refine Due.mk ?_
    | omega)
  exact ⟨rfl, rfl, rfl⟩
def litS : Su := ⟨1, 0, 5, 100, [8000], [[500]], [[0]]⟩
theorem litS_ok : SuOk litS 1 := by
  refine ⟨by omega, by decide, by decide, by decide, by decide, rfl, rfl, rfl, ?_, ?_, ?_⟩ <;> intro i hi <;> obtain rfl : i = 0 := by omega
  · decide
  · refine ⟨rfl, fun z hz => ?_⟩
    obtain rfl : z = 0 := by have : z < 1 := hz; omega
    decide
  · refine ⟨rfl, fun z hz => ?_⟩
    obtain rfl : z = 0 := by have : z < 1 := hz; omega
    decide
theorem litS_chk : chkE litS.Z litS.mr litS.rg litS.tol litS.tg litS.ks litS.ld = 0 := by decide +kernel
theorem lit_feE : feE litS (newCt litS 1 1) [(0, 0)] [[1000]] 1 = [(2, 1, 0, 0, 938, 0)] := by decide +kernel
theorem bound_c (ci cr d : Int) (hd : Due (-1000 ≤ d ∧ d ≤ 1000)) (hc : rng .i64 cr) : TC R Try.prog control_Bound_f [.agg [.int .i64 ci, .int .i64 cr], .int .i64 d] [] (fun v X => v = .tup (if ctlE ci cr ≠ 0 then [.int .i64 (0 : Int), .int .i64 (ctlE ci cr)] else if d < 0 ∨ 16 < d then [.int .i64 (0 : Int), .int .i64 (3 : Int)] else [.int .i64 (min 1000 (d * cr)), .int .i64 (0 : Int)]) ∧ X = []) := by
  dsimp only [Due] at hd
  have cc := ccheck_c ci cr
  refine tc0 env control_Bound_s (by rfl) ?_
  dsimp only [control_Bound_c]
  by_cases h : ctlE ci cr = 0
  · rw [h] at cc
    rw [if_neg (fun q => q h)]
    have h2 : 1 ≤ cr ∧ cr ≤ 4000 := by
      unfold ctlE at h
      split at h
      · contradiction
      · omega
    by_cases h3 : d < 0 ∨ 16 < d
    · rw [if_pos h3]
      repeat' (first
        | ((with_reducible refine TOps.any ?_); refine TOps.callV env (by rfl) (by rfl) (by rfl) (cc) ?_)
        | refine GZp_i_6i_LiJ_2i ?_ ?_ ?_ ?_ ?_ ?_ ?_ ?_
        | with_reducible first | exact BzZq.mk | refine Tw.ret ?_ | refine ImZq.i fun h => ?_ | refine IkZq.i fun hk => ?_)
      all_goals exact ⟨rfl, rfl, rfl⟩
    · rw [if_neg h3]
      have h4 : 0 ≤ d * cr ∧ d * cr ≤ 16 * 4000 := ⟨Int.mul_nonneg (by omega) (by omega), Int.mul_le_mul (by omega) (by omega) (by omega) (by omega)⟩
      have h5 : -9223372036854775808 ≤ d * cr ∧ d * cr ≤ 9223372036854775807 := by omega
      repeat' (first
        | ((with_reducible refine TOps.any ?_); refine TOps.callV env (by rfl) (by rfl) (by rfl) (cc) ?_)
        | exact h5
        | refine GZp_i_6i_LiJ_2i ?_ ?_ ?_ ?_ ?_ ?_ ?_ ?_
        | with_reducible first | exact BzZq.mk | refine Tw.ret ?_ | refine ImZq.i fun h => ?_ | refine IkZq.i fun hk => ?_)
      all_goals exact ⟨rfl, rfl, rfl⟩
  · rw [if_pos h]
    generalize ctlE ci cr = q at *
    repeat' (first
      | ((with_reducible refine TOps.any ?_); refine TOps.callV env (by rfl) (by rfl) (by rfl) (cc) ?_)
      | refine GZp_i_6i_LiJ_2i ?_ ?_ ?_ ?_ ?_ ?_ ?_ ?_
      | with_reducible first | exact BzZq.mk | refine Tw.ret ?_ | refine ImZq.i fun h => ?_ | refine IkZq.i fun hk => ?_)
    all_goals exact ⟨rfl, rfl, rfl⟩
theorem lit_rc : RcOk litS 1 [(0, 0)] [[1000]] := by
  refine ⟨rfl, rfl, ?_, ?_⟩ <;> intro i hi <;> obtain rfl : i = 0 := by omega
  · decide
  · refine ⟨rfl, fun z hz => ?_⟩
    obtain rfl : z = 0 := by have : z < 1 := hz; omega
    decide
def litC : List (Option (TRow A)) := [some (.cells [.int .i64 (litS.Z : Int), .int .i64 (0 : Int), .int .i64 (0 : Int), .int .i64 (0 : Int), .lst Ei litS.tg, .nils, .lst ELiJ litS.ld, .int .i64 (newCt litS 1 1).ci, .int .i64 (newCt litS 1 1).cr, .sl 1 1 0 1, .int .i64 (newCt litS 1 1).n]), some (.cells [.sla 1 2 0 litS.Z]), some (.arr Ei ((newCt litS 1 1).ks 0))]
theorem controlWorks_c : TC R Try.prog K2_controlWorks_f [] [] (fun v X => v = .bool true ∧ X = []) := by
  have cn := cnew_c litS 1 1 1 litS_ok litS_chk rfl
  have b1 := bound_c 1 10 2 (by dsimp only [Due]; omega) (by simp [rng])
  have cf := cfeed_c litS 1 (newCt litS 1 1) 0 0 [(0, 0)] [[1000]] litS_ok (newCt_ok litS_ok rfl) (by show (0 : Int) < 3999; omega) lit_rc
  rw [lit_feE] at cf
  refine tc0 env K2_controlWorks_s (by rfl) ?_
  dsimp only [K2_controlWorks_c]
  have cB := ctB_sh (b := 0) (S := litS) (u := 1) (c := newCt litS 1 1)
  have cY := ctB_sh (b := 0) (S := litS) (u := 1) (c := { newCt litS 1 1 with n := (newCt litS 1 1).n + 1, ks := keK litS (newCt litS 1 1) [[1000]] 1 })
  simp only [ctB, ctD, ksB, ksR, List.cons_append, List.nil_append, Nat.reduceAdd] at cB cY
  simp only [ctR, ctC, ksC, ksR, List.cons_append, List.nil_append, Nat.reduceAdd] at cn
  repeat' (first
    | ((with_reducible refine TOps.any ?_); refine TOps.callV env (by rfl) (by rfl) (by rfl) (little_c) ?_)
    | ((with_reducible refine TOps.any ?_); refine callJ env _ (cn) (by rfl) (by rfl) (by simp only [List.length_cons, List.length_nil, Nat.reduceAdd]; rfl) (by rfl) (by rfl) (by rfl) ?_)
    | ((with_reducible refine TOps.any ?_); refine TOps.callV env (by rfl) (by rfl) (by rfl) (b1) ?_)
    | refine GZp_i_6i_LiJ_2i ?_ ?_ ?_ ?_ ?_ ?_ ?_ ?_
    | with_reducible first | exact BzZq.mk | refine Tw.ret ?_ | refine ImZq.i fun h => ?_ | refine IkZq.i fun hk => ?_)
  refine TOps.frz env 3 (by rfl) (by rfl) (by rfl) ?_ ?_ ?_
  · repeat' (first
      | refine GZ_i_6i_LiJ_2i ?_ ?_ ?_ ?_ ?_ ?_ ?_ ?_
      | with_reducible first | exact BzZq.mk | refine Tw.ret ?_ | refine ImZq.i fun h => ?_ | refine IkZq.i fun hk => ?_)
  · repeat' (first
      | refine GZ_i_6i_LiJ_2i ?_ ?_ ?_ ?_ ?_ ?_ ?_ ?_
      | with_reducible first | exact BzZq.mk | refine Tw.ret ?_ | refine ImZq.i fun h => ?_ | refine IkZq.i fun hk => ?_)
  refine TOps.frz env 4 (by rfl) (by rfl) (by rfl) ?_ ?_ ?_
  · repeat' (first
      | refine GZ_i_6i_LiJ_2i ?_ ?_ ?_ ?_ ?_ ?_ ?_ ?_
      | with_reducible first | exact BzZq.mk | refine Tw.ret ?_ | refine ImZq.i fun h => ?_ | refine IkZq.i fun hk => ?_)
  · repeat' (first
      | refine GZ_i_6i_LiJ_2i ?_ ?_ ?_ ?_ ?_ ?_ ?_ ?_
      | with_reducible first | exact BzZq.mk | refine Tw.ret ?_ | refine ImZq.i fun h => ?_ | refine IkZq.i fun hk => ?_)
  refine TOps.weaken (TWk.fcanon env [some 0, some 1, some 2, none, none, some 5] (F' := [(25, .agg [.int .i64 (1 : Int), .int .i64 (0 : Int), .lst E2i [((0 : Int), (0 : Int))], .sla 1 5 0 1, .int .i64 (0 : Int)]), (20, .ptr 0 0)]) (H' := litC ++ [none, none, some (.cells [.lst Ei [(1000 : Int)]])]) (by rfl) ?_) ?_
  · repeat' (first
      | exact rfl
      | refine GZ_i_6i_LiJ_2i ?_ ?_ ?_ ?_ ?_ ?_ ?_ ?_
      | with_reducible first | exact BzZq.mk | refine Tw.ret ?_ | refine ImZq.i fun h => ?_ | refine IkZq.i fun hk => ?_)
  refine TOps.weaken (show TWk R _ _ (litC ++ [none, none, some (.arr ELiJ [[(1000 : Int)]])]) _ _ from by unfold TWk; exact Wk.refl _ _) ?_
  refine TOps.frz env 5 (by rfl) (by rfl) (by rfl) ?_ ?_ ?_
  · repeat' (first
      | refine GZ_i_6i_LiJ_2i ?_ ?_ ?_ ?_ ?_ ?_ ?_ ?_
      | with_reducible first | exact BzZq.mk | refine Tw.ret ?_ | refine ImZq.i fun h => ?_ | refine IkZq.i fun hk => ?_)
  · repeat' (first
      | refine GZ_i_6i_LiJ_2i ?_ ?_ ?_ ?_ ?_ ?_ ?_ ?_
      | with_reducible first | exact BzZq.mk | refine Tw.ret ?_ | refine ImZq.i fun h => ?_ | refine IkZq.i fun hk => ?_)
  rw [show cut [[(1000 : Int)]] 0 1 = [[1000]] from rfl]
  repeat' (first
    | ((with_reducible refine TOps.any ?_); refine callM env _ _ (cf) (cB) (cY) (by first | (simp only [List.length_cons, List.length_nil, Nat.reduceAdd]; rfl) | rfl) (by rfl) (by rfl) (by rfl) (by rfl) (by rfl) (by rfl) (by rfl) (by rfl) (by rfl) (by rfl) (by rfl) ?_)
    | ((with_reducible refine TOps.any ?_); refine TOps.callV env (by rfl) (by rfl) (by rfl) (b1) ?_)
    | refine GZp_i_6i_LiJ_2i ?_ ?_ ?_ ?_ ?_ ?_ ?_ ?_
    | with_reducible first | exact BzZq.mk | refine Tw.ret ?_ | refine ImZq.i fun h => ?_ | refine IkZq.i fun hk => ?_)
  exact ⟨rfl, rfl, rfl⟩
end Go.Proofs.Ytbaepacihkgalaa
