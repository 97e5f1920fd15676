/- The law BilevelBlank. -/
import Derived.Test.YtjedljdfkoagbaaBlW
import Derived.Test.YtjedljdfkoagbaaRc7
import Derived.Test.YtjedljdfkoagbaaRMod
import Derived.Test.YtjedljdfkoagbaaXBilevelBlank0
import Derived.Test.YtjedljdfkoagbaaGo
namespace Go.Proofs.Ytjedljdfkoagbaa
open Go Go.Lite
set_option linter.unusedVariables false
set_option linter.unusedSimpArgs false
set_option maxRecDepth 100000
set_option maxHeartbeats 4000000
-- @simp rdi rdy

theorem make_b (w k : Nat) (hw : 1 ≤ w ∧ w ≤ 1024) (hk : 1 ≤ k ∧ k ≤ 1024) :
    TC R Try.prog bitmap_Make_f [.int .i64 w, .int .i64 k] [] (fun v X => v = .tup [.agg [.int .i64 w, .int .i64 k, .lst Ey (bm w k fun _ _ => false)], .int .i64 0] ∧ X = []) := by
  have bc := blank_c w k hw hk
  have le : 0 + st w * k ≤ (bm w k fun _ _ => false).length := by rw [bm_len]; omega
  refine tc0 env bitmap_Make_s (by rfl) ?_
  dsimp only [bitmap_Make_c]
  repeat' (first
    | ((with_reducible refine TOps.any ?_); refine TOps.callV env (by rfl) (by rfl) (by rfl) (bc) ?_)
    | exact le
    | ((with_reducible refine Tw.retI ?_); refine Tw.frz env 1 (by rfl) (by rfl) (by rfl) ?_ ?_ (Tw.ret ?_))
    | refine Gp_i_y ?_ ?_ ?_ ?_ ?_ ?_ ?_ ?_
    | with_reducible first | exact B0.mk | refine Tw.ret ?_ | refine Im.i fun h => ?_ | refine Ik.i fun hk => ?_)
  rw [cut_all bm_len.symm]
  exact ⟨rfl, rfl, rfl⟩
theorem evs_blank {w k : Nat} : ∀ {y : Nat}, evs w k (fun _ _ => false) (sameR w fun _ _ => false) y = tab y fun _ => (2048, 1)
  | 0 => rfl
  | y + 1 => by
    have e : sameR w (fun _ _ => false) y = true := by
      unfold sameR
      refine decide_eq_true ?_
      refine rowB_congr fun x _ => ?_
      unfold abv
      split <;> rfl
    simp only [evs]
    rw [evs_blank (y := y), tab_succ]
    unfold rowE
    rw [e, if_pos rfl]; rfl
theorem eRun_congr {N : Nat} {a b c d : Nat → Nat} : ∀ {k : Nat}, (∀ j, j < k → a j = b j ∧ c j = d j) → eRun N a c k = eRun N b d k
  | 0, _ => rfl
  | k + 1, h => by
    show estep (eRun N a c k) (a k) (c k) = estep (eRun N b d k) (b k) (d k)
    rw [eRun_congr fun j hj => h j (by omega), (h k (by omega)).1, (h k (by omega)).2]
theorem BilevelBlank_law (W H : Int) (rW : rng .i64 W) (rH : rng .i64 H) :
    TC R Try.prog K2_BilevelBlank_f [.int .i64 W, .int .i64 H] [] (fun v X => v = .bool true ∧ X = []) := by
  simp only [rng] at rW rH
  have m1 := rMod_c W 1024 (by unfold Due; omega)
  have m2 := rMod_c H 64 (by unfold Due; omega)
  obtain ⟨w, hw⟩ : ∃ w : Nat, 1 + W % 1024 = w := ⟨(1 + W % 1024).toNat, by omega⟩
  obtain ⟨k, hk⟩ : ∃ k : Nat, 1 + H % 64 = k := ⟨(1 + H % 64).toNat, by omega⟩
  have hw2 : 1 ≤ w ∧ w ≤ 1024 := by omega
  have hk2 : 1 ≤ k ∧ k ≤ 64 := by omega
  have mc := make_b w k hw2 (by omega)
  have pc := packB_c w k (fun _ _ => false) hw2 hk2
  obtain ⟨S, hS⟩ : ∃ S, S = stripeB w k fun _ _ => false := ⟨_, rfl⟩
  have qb : ∀ j, j < S.length → 0 ≤ S.getD j 0 ∧ S.getD j 0 ≤ 255 := by rw [hS]; exact bytesOf_bd _
  obtain ⟨L, hL⟩ : ∃ L : List Int, L = tab k fun _ => 2048 := ⟨_, rfl⟩
  obtain ⟨M, hM⟩ : ∃ M : List Int, M = tab k fun _ => 1 := ⟨_, rfl⟩
  have lL : L.length = k := by rw [hL]; exact tab_len
  have lM : M.length = k := by rw [hM]; exact tab_len
  have ec := encode_c 2049 L M (fun _ => 2048) (fun _ => 1) (by omega) (by omega) (by omega) (fun j hj => ⟨by rw [hL]; exact tab_get (by omega), by omega⟩) (fun j hj => ⟨by rw [hM]; exact tab_get (by omega), by omega⟩)
  have eS : bytesOf (eRun 2049 (fun _ => 2048) (fun _ => 1) L.length) = S := by
    rw [hS, lL]
    unfold stripeB
    rw [evs_blank, tab_len]
    refine congrArg bytesOf (eRun_congr fun j hj => ?_)
    unfold ctx bitA
    rw [tab_get hj]
    exact ⟨rfl, rfl⟩
  rw [eS] at ec
  rw [← hS] at pc
  have sb : TC R Try.prog R2_SameBytes_f [.lst Ey S, .lst Ey S] [] (fun v X => v = .bool true ∧ X = []) := by
    have := sameBytes_c S S qb qb
    rwa [decide_eq_true rfl] at this
  refine tc0 env K2_BilevelBlank_s (by rfl) ?_
  dsimp only [K2_BilevelBlank_c]
  repeat' (first
    | ((with_reducible refine TOps.any ?_); refine TOps.callV env (by rfl) (by rfl) (by rfl) (bilevelWorks_c) ?_)
    | ((with_reducible refine TOps.any ?_); refine TOps.callV env (by rfl) (by rfl) (by rfl) (m1) ?_)
    | ((with_reducible refine TOps.any ?_); refine TOps.callV env (by rfl) (by rfl) (by rfl) (m2) ?_)
    | refine Gp_i_y ?_ ?_ ?_ ?_ ?_ ?_ ?_ ?_
    | with_reducible first | exact B0.mk | refine Tw.ret ?_ | refine Im.i fun h => ?_ | refine Ik.i fun hk => ?_)
  rw [hw, hk]
  repeat' (first
    | ((with_reducible refine TOps.any ?_); refine TOps.callV env (by rfl) (by rfl) (by rfl) (mc) ?_)
    | ((with_reducible refine TOps.any ?_); refine TOps.callV env (by rfl) (by rfl) (by rfl) (pc) ?_)
    | refine Gp_i_y ?_ ?_ ?_ ?_ ?_ ?_ ?_ ?_
    | with_reducible first | exact B0.mk | refine Tw.ret ?_ | refine Im.i fun h => ?_ | refine Ik.i fun hk => ?_)
  rw [Int.toNat_natCast]
  refine Tw.loopK [6, 7, 8, 37] (fun y : Nat => y ≤ k) (fun y => k - y) (fun y => [(38, .int .i64 y), (9, .sla 1 0 0 k), (10, .sla 1 1 0 k)])
    (fun y => [some (.arr Ei (ptab k y fun _ => 2048)), some (.arr Ei (ptab k y fun _ => 1))]) ⟨0, by omega, ?_⟩ (fun y hy => ?_)
  · rw [ptab_zero, ptab_zero]
    refine TWk.fcanon env [some 1, some 2] (by rfl) ?_
    repeat' (first
      | with_reducible first | exact Conj.nil | refine Conj.cons rfl ?_ | refine Conj.same ?_ | refine Conj.ask ?_ ?_
      | ((with_reducible refine Due.mk ?_); (first | with_reducible rfl | omega | assumption | decide | ((try simp only [goS] at *) <;> (try intro h) <;> (try intro h') <;> (try simp only [goS] at *) <;> (try simp only [rdi, rdy, Int.toNat_natCast, Nat.add_zero] at *) <;> (try simp only [rng]) <;> (first | assumption | omega)) | (exact due_app0 (by omega)) | (exact due_app (by omega)) | (intros; simp; done) | (intros; simp; omega)))
      | with_reducible refine Due.mk ?_
      | omega)
  have l1 : (ptab k y fun _ => 2048).length = k := ptab_len
  have l2 : (ptab k y fun _ => 1).length = k := ptab_len
  rcases Nat.lt_or_ge y k with hy2 | hy2
  · have s1 : (ptab k y fun _ => 2048).set y 2048 = ptab k (y + 1) fun _ => 2048 := ptab_set
    have s2 : (ptab k y fun _ => 1).set y 1 = ptab k (y + 1) fun _ => 1 := ptab_set
    repeat' (first
      | refine Gy_i_y (And.intro l1 l2) ?_ ?_ ?_ ?_ ?_ ?_ ?_ ?_
      | with_reducible first | exact B0.mk | refine Tw.ret ?_ | refine Im.i fun h => ?_ | refine Ik.i fun hk => ?_)
    refine ⟨y + 1, by omega, by omega, TWk.fcanon env [some 0, some 1] (by rfl) ?_⟩
    repeat' (first
      | exact s1.symm
      | exact s2.symm
      | with_reducible first | exact Conj.nil | refine Conj.cons rfl ?_ | refine Conj.same ?_ | refine Conj.ask ?_ ?_
      | ((with_reducible refine Due.mk ?_); (first | with_reducible rfl | omega | assumption | decide | ((try simp only [goS] at *) <;> (try intro h) <;> (try intro h') <;> (try simp only [goS] at *) <;> (try simp only [rdi, rdy, Int.toNat_natCast, Nat.add_zero] at *) <;> (try simp only [rng]) <;> (first | assumption | omega)) | (exact due_app0 (by omega)) | (exact due_app (by omega)) | (intros; simp; done) | (intros; simp; omega)))
      | with_reducible refine Due.mk ?_
      | omega)
  obtain rfl : y = k := by omega
  rw [ptab_all, ptab_all, ← hL, ← hM] at *
  repeat' (first
    | refine Gp_i_y ?_ ?_ ?_ ?_ ?_ ?_ ?_ ?_
    | with_reducible first | exact B0.mk | refine Tw.ret ?_ | refine Im.i fun h => ?_ | refine Ik.i fun hk => ?_)
  refine TOps.frz env 0 (by rfl) (by rfl) (by rfl) ?_ ?_ ?_
  · repeat' (first
      | with_reducible first | exact Conj.nil | refine Conj.cons rfl ?_ | refine Conj.same ?_ | refine Conj.ask ?_ ?_
      | ((with_reducible refine Due.mk ?_); (first | with_reducible rfl | omega | assumption | decide | ((try simp only [goS] at *) <;> (try intro h) <;> (try intro h') <;> (try simp only [goS] at *) <;> (try simp only [rdi, rdy, Int.toNat_natCast, Nat.add_zero] at *) <;> (try simp only [rng]) <;> (first | assumption | omega)) | (exact due_app0 (by omega)) | (exact due_app (by omega)) | (intros; simp; done) | (intros; simp; omega)))
      | with_reducible refine Due.mk ?_
      | omega)
  · repeat' (first
      | with_reducible first | exact Conj.nil | refine Conj.cons rfl ?_ | refine Conj.same ?_ | refine Conj.ask ?_ ?_
      | ((with_reducible refine Due.mk ?_); (first | with_reducible rfl | omega | assumption | decide | ((try simp only [goS] at *) <;> (try intro h) <;> (try intro h') <;> (try simp only [goS] at *) <;> (try simp only [rdi, rdy, lL, Int.toNat_natCast, Nat.add_zero] at *) <;> (try simp only [rng]) <;> (first | assumption | omega)) | (exact due_app0 (by omega)) | (exact due_app (by omega)) | (intros; simp; done) | (intros; simp; omega)))
      | with_reducible refine Due.mk ?_
      | omega)
  refine TOps.frz env 1 (by rfl) (by rfl) (by rfl) ?_ ?_ ?_
  · repeat' (first
      | with_reducible first | exact Conj.nil | refine Conj.cons rfl ?_ | refine Conj.same ?_ | refine Conj.ask ?_ ?_
      | ((with_reducible refine Due.mk ?_); (first | with_reducible rfl | omega | assumption | decide | ((try simp only [goS] at *) <;> (try intro h) <;> (try intro h') <;> (try simp only [goS] at *) <;> (try simp only [rdi, rdy, Int.toNat_natCast, Nat.add_zero] at *) <;> (try simp only [rng]) <;> (first | assumption | omega)) | (exact due_app0 (by omega)) | (exact due_app (by omega)) | (intros; simp; done) | (intros; simp; omega)))
      | with_reducible refine Due.mk ?_
      | omega)
  · repeat' (first
      | with_reducible first | exact Conj.nil | refine Conj.cons rfl ?_ | refine Conj.same ?_ | refine Conj.ask ?_ ?_
      | ((with_reducible refine Due.mk ?_); (first | with_reducible rfl | omega | assumption | decide | ((try simp only [goS] at *) <;> (try intro h) <;> (try intro h') <;> (try simp only [goS] at *) <;> (try simp only [rdi, rdy, lM, Int.toNat_natCast, Nat.add_zero] at *) <;> (try simp only [rng]) <;> (first | assumption | omega)) | (exact due_app0 (by omega)) | (exact due_app (by omega)) | (intros; simp; done) | (intros; simp; omega)))
      | with_reducible refine Due.mk ?_
      | omega)
  rw [cut_all lL.symm, cut_all lM.symm]
  repeat' (first
    | ((with_reducible refine TOps.any ?_); refine TOps.callV env (by rfl) (by rfl) (by rfl) (ec) ?_)
    | refine Gp_i_y ?_ ?_ ?_ ?_ ?_ ?_ ?_ ?_
    | with_reducible first | exact B0.mk | refine Tw.ret ?_ | refine Im.i fun h => ?_ | refine Ik.i fun hk => ?_)
  refine TOps.frz env 2 (by rfl) (by rfl) (by rfl) ?_ ?_ ?_
  · repeat' (first
      | with_reducible first | exact Conj.nil | refine Conj.cons rfl ?_ | refine Conj.same ?_ | refine Conj.ask ?_ ?_
      | ((with_reducible refine Due.mk ?_); (first | with_reducible rfl | omega | assumption | decide | ((try simp only [goS] at *) <;> (try intro h) <;> (try intro h') <;> (try simp only [goS] at *) <;> (try simp only [rdi, rdy, Int.toNat_natCast, Nat.add_zero] at *) <;> (try simp only [rng]) <;> (first | assumption | omega)) | (exact due_app0 (by omega)) | (exact due_app (by omega)) | (intros; simp; done) | (intros; simp; omega)))
      | with_reducible refine Due.mk ?_
      | omega)
  · repeat' (first
      | with_reducible first | exact Conj.nil | refine Conj.cons rfl ?_ | refine Conj.same ?_ | refine Conj.ask ?_ ?_
      | ((with_reducible refine Due.mk ?_); (first | with_reducible rfl | omega | assumption | decide | ((try simp only [goS] at *) <;> (try intro h) <;> (try intro h') <;> (try simp only [goS] at *) <;> (try simp only [rdi, rdy, Int.toNat_natCast, Nat.add_zero] at *) <;> (try simp only [rng]) <;> (first | assumption | omega)) | (exact due_app0 (by omega)) | (exact due_app (by omega)) | (intros; simp; done) | (intros; simp; omega)))
      | with_reducible refine Due.mk ?_
      | omega)
  rw [cut_full]
  repeat' (first
    | ((with_reducible refine TOps.any ?_); refine TOps.callV env (by rfl) (by rfl) (by rfl) (sb) ?_)
    | refine Gp_i_y ?_ ?_ ?_ ?_ ?_ ?_ ?_ ?_
    | with_reducible first | exact B0.mk | refine Tw.ret ?_ | refine Im.i fun h => ?_ | refine Ik.i fun hk => ?_)
  exact ⟨rfl, rfl, rfl⟩
end Go.Proofs.Ytjedljdfkoagbaa
