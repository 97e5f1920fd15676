/- The law StripRegisters: the offsets of marks that are printed with several inks are found on the sheet. -/
import Derived.Test.YtanhalcbghbpaaaStripMk
import Derived.Test.YtanhalcbghbpaaaRMod
import Derived.Test.YtanhalcbghbpaaaXStripRegisters0
namespace Go.Proofs.Ytanhalcbghbpaaa
open Go Go.Lite
set_option linter.unusedVariables false
set_option linter.unusedSimpArgs false
set_option maxRecDepth 100000
set_option maxHeartbeats 4000000
-- @simp rdi rdy rd2i rd3i

/-- The offset of ink k. -/
def offP (ss : List (Int × Int)) (k : Nat) : Int × Int := if k < ss.length then ((ss.getD k (0, 0)).1 % 13 - 6, (ss.getD k (0, 0)).2 % 13 - 6) else (0, 0)
theorem offP_bd {ss : List (Int × Int)} {k : Nat} : -6 ≤ (offP ss k).1 ∧ (offP ss k).1 ≤ 6 ∧ -6 ≤ (offP ss k).2 ∧ (offP ss k).2 ≤ 6 := by
  unfold offP
  split
  · simp only; omega
  · simp
def movTo (L : List R3) (i : Nat) : List R3 := tab L.length fun j => if j < i then shR (L.getD j dR) else L.getD j dR
theorem movTo_len {L : List R3} {i : Nat} : (movTo L i).length = L.length := tab_len
theorem movTo_zero {L : List R3} : movTo L 0 = L := ext_getD dR (by rw [movTo_len]) fun j hj => by rw [movTo_len] at hj; unfold movTo; rw [tab_get hj, if_neg (by omega)]
theorem movTo_all {L : List R3} : movTo L L.length = L.map shR := ext_getD dR (by simp [movTo_len]) fun j hj => by
  rw [movTo_len] at hj
  unfold movTo
  rw [tab_get hj, if_pos hj, getD_get dR hj, getD_get dR (by simpa using hj), List.getElem_map]
theorem movTo_at {L : List R3} {i : Nat} (hi : i < L.length) : (movTo L i).getD i dR = L.getD i dR := by unfold movTo; rw [tab_get hi, if_neg (by omega)]
theorem movTo_step {L : List R3} {i : Nat} (hi : i < L.length) : (movTo L i).set i (shR (L.getD i dR)) = movTo L (i + 1) := by
  refine ext_getD dR (by simp [movTo_len]) fun j hj => ?_
  rw [List.length_set, movTo_len] at hj
  by_cases e : i = j
  · subst e
    rw [getD_set_eq (by rw [movTo_len]; exact hi)]
    unfold movTo; rw [tab_get hi, if_pos (by omega)]
  · rw [getD_set_ne e]
    unfold movTo; rw [tab_get hj, tab_get hj]
    by_cases h : j < i
    · rw [if_pos h, if_pos (by omega)]
    · rw [if_neg h, if_neg (by omega)]
def fD (a : Nat) (ss : List (Int × Int)) (t : Nat) : List Int := bm (2 * a + 13) (2 * a + 13) fun x y => px (2 * a + 13) (2 * a + 13) (midB a) ((x : Int) - (offP ss t).1) ((y : Int) - (offP ss t).2)
theorem StripRegisters_law (a0 : Int) (ss : List (Int × Int)) (_ : rng .i64 a0) (ws : ss.length ≤ 9223372036854775807 ∧ ∀ y ∈ ss, W2i y) :
    TC R Try.prog K2_StripRegisters_f [.int .i64 a0, .lst E2i ss] [] (fun v X => v = .bool true ∧ X = []) := by
  rename_i ra
  simp only [rng] at ra
  have m1 := rMod_c a0 5 (by unfold Due; omega)
  obtain ⟨a, ea⟩ : ∃ a : Nat, 1 + a0 % 5 = a := ⟨(1 + a0 % 5).toNat, by omega⟩
  have ha : 1 ≤ a ∧ a ≤ 5 := by omega
  obtain ⟨n, en⟩ : ∃ n, n = 1 + ss.length % 4 := ⟨_, rfl⟩
  have q1 : 1 + rem (ss.length : Int) 4 = (n : Int) := by rw [rem_nn (by omega)]; omega
  have mk := smark_c a (2 * a + 1) rfl (by omega)
  have okM : BmOk (2 * a + 1) (2 * a + 1) (bm (2 * a + 1) (2 * a + 1) (crF a (2 * a + 1))) := bm_ok (by omega) (by omega)
  have rc := runs_r (2 * a + 1) (2 * a + 1) _ okM okM.byte
  obtain ⟨L, hL⟩ : ∃ L, L = mkL a := ⟨_, rfl⟩
  rw [show runsTo (fun x y => px (2 * a + 1) (2 * a + 1) (bm (2 * a + 1) (2 * a + 1) (crF a (2 * a + 1))) x y) (2 * a + 1) (2 * a + 1) = L from hL.symm] at rc
  refine tc0 env K2_StripRegisters_s (by rfl) ?_
  dsimp only [K2_StripRegisters_c]
  repeat' (first
    | ((with_reducible refine TOps.any ?_); refine TOps.callV env (by rfl) (by rfl) (by rfl) (stripWorks_c) ?_)
    | ((with_reducible refine TOps.any ?_); refine TOps.callV env (by rfl) (by rfl) (by rfl) (m1) ?_)
    | with_reducible first | refine Tw.seq ?_ | refine Tw.reg ?_ | refine Tw.block ?_ | refine Tw.scope ?_ | refine Tw.skip ?_ | refine Tw.exit ?_ | refine Tw.ret ?_ | refine seqN ?_ | refine seqR ?_ | refine seqE ?_ | refine rndN ?_ | refine blkN ?_ | refine blkR ?_ | refine blkE1 ?_ | refine blkE0 (by kernel_rfl) ?_ | refine scpN ?_ | refine scpR ?_ | refine scpE ?_ | refine TOps.nil ?_ | exact Conj.nil | refine Conj.cons rfl ?_ | refine Conj.same ?_ | refine Conj.ask ?_ ?_ | refine Tw.regd env ?_ | refine TDr.nil ⟨by kernel_rfl, ?_⟩
    | ((with_reducible refine TOps.any ?_); first | refine TOps.frunP env (by rfl) (by rfl) ?_ ?_ | (refine TOps.known (by rfl) ?_; refine TOps.strip env (by rfl) (by rfl) ?_ ?_) | refine TOps.on (by rfl) (by rfl) ?_)
    | ((with_reducible refine TDr.any ?_); refine TDr.frunP env (by rfl) (by rfl) ?_ ?_)
    | ((with_reducible refine Tw.any ?_); first | refine Tw.condT (by rfl) ?_ | refine Tw.condF (by rfl) ?_)
    | ((first | ((with_reducible refine TOps.any ?_); (fail_if_success refine TOps.known (by rfl) ?_); refine TOps.ask (by rfl) (fun h => ?_) (fun h => ?_)) | ((with_reducible refine TDr.any ?_); (fail_if_success refine TDr.known (by first | rfl | assumption) ?_); refine TDr.ask (by rfl) (fun h hk => ?_) (fun h => ?_)) | ((with_reducible refine Tw.any ?_); refine Tw.cond (by rfl) (fun h => ?_) (fun h => ?_))) <;> (try simp only [goS] at h) <;> (try simp only [rdi, rdy, rd2i, rd3i, Int.toNat_natCast, Nat.add_zero] at h) <;> (try (exfalso; (try simp only [goP, reduceCtorEq] at h) <;> (first | assumption | omega | contradiction | (rcases h with ⟨_, _⟩ <;> first | contradiction | omega) | (rcases h with h | h <;> first | contradiction | omega)))))
    | ((with_reducible refine tret.any ?_); first | refine tret.ok (by rfl) ?_ | refine tret.okN (by rfl) ?_)
    | ((with_reducible refine Due.mk ?_); (first | with_reducible rfl | omega | assumption | decide | ((try simp only [goS] at *) <;> (try intro h) <;> (try intro h') <;> (try simp only [goS] at *) <;> (try simp only [rdi, rdy, rd2i, rd3i, Int.toNat_natCast, Nat.add_zero] at *) <;> (try simp only [rng]) <;> (first | assumption | omega)) | (exact due_app0 (by omega)) | (exact due_app (by omega)) | (intros; simp; done) | (intros; simp; omega)))
    | with_reducible refine Due.mk ?_
    | omega)
  rw [ea]
  repeat' (first
    | ((with_reducible refine TOps.any ?_); refine TOps.callV env (by rfl) (by rfl) (by rfl) (mk) ?_)
    | ((with_reducible refine TOps.any ?_); refine TOps.callV env (by rfl) (by rfl) (by rfl) (rc) ?_)
    | with_reducible first | refine Tw.seq ?_ | refine Tw.reg ?_ | refine Tw.block ?_ | refine Tw.scope ?_ | refine Tw.skip ?_ | refine Tw.exit ?_ | refine Tw.ret ?_ | refine seqN ?_ | refine seqR ?_ | refine seqE ?_ | refine rndN ?_ | refine blkN ?_ | refine blkR ?_ | refine blkE1 ?_ | refine blkE0 (by kernel_rfl) ?_ | refine scpN ?_ | refine scpR ?_ | refine scpE ?_ | refine TOps.nil ?_ | exact Conj.nil | refine Conj.cons rfl ?_ | refine Conj.same ?_ | refine Conj.ask ?_ ?_ | refine Tw.regd env ?_ | refine TDr.nil ⟨by kernel_rfl, ?_⟩
    | ((with_reducible refine TOps.any ?_); first | refine TOps.frunP env (by rfl) (by rfl) ?_ ?_ | (refine TOps.known (by rfl) ?_; refine TOps.strip env (by rfl) (by rfl) ?_ ?_) | refine TOps.on (by rfl) (by rfl) ?_)
    | ((with_reducible refine TDr.any ?_); refine TDr.frunP env (by rfl) (by rfl) ?_ ?_)
    | ((with_reducible refine Tw.any ?_); first | refine Tw.condT (by rfl) ?_ | refine Tw.condF (by rfl) ?_)
    | ((first | ((with_reducible refine TOps.any ?_); (fail_if_success refine TOps.known (by rfl) ?_); refine TOps.ask (by rfl) (fun h => ?_) (fun h => ?_)) | ((with_reducible refine TDr.any ?_); (fail_if_success refine TDr.known (by first | rfl | assumption) ?_); refine TDr.ask (by rfl) (fun h hk => ?_) (fun h => ?_)) | ((with_reducible refine Tw.any ?_); refine Tw.cond (by rfl) (fun h => ?_) (fun h => ?_))) <;> (try simp only [goS] at h) <;> (try simp only [rdi, rdy, rd2i, rd3i, Int.toNat_natCast, Nat.add_zero] at h) <;> (try (exfalso; (try simp only [goP, reduceCtorEq] at h) <;> (first | assumption | omega | contradiction | (rcases h with ⟨_, _⟩ <;> first | contradiction | omega) | (rcases h with h | h <;> first | contradiction | omega)))))
    | ((with_reducible refine tret.any ?_); first | refine tret.ok (by rfl) ?_ | refine tret.okN (by rfl) ?_)
    | ((with_reducible refine Due.mk ?_); (first | with_reducible rfl | omega | assumption | decide | ((try simp only [goS] at *) <;> (try intro h) <;> (try intro h') <;> (try simp only [goS] at *) <;> (try simp only [rdi, rdy, rd2i, rd3i, Int.toNat_natCast, Nat.add_zero] at *) <;> (try simp only [rng]) <;> (first | assumption | omega)) | (exact due_app0 (by omega)) | (exact due_app (by omega)) | (intros; simp; done) | (intros; simp; omega)))
    | with_reducible refine Due.mk ?_
    | omega)
  rw [q1]
  have oL : ∀ t ∈ L, runOk (2 * a + 1) (2 * a + 1) t := by rw [hL]; exact mkL_ok
  have hll : L.length ≤ 1000 := by
    rw [hL]; unfold mkL
    have h1 := runsTo_len (p := fun x y => px (2 * a + 1) (2 * a + 1) (bm (2 * a + 1) (2 * a + 1) (crF a (2 * a + 1))) x y) (w := 2 * a + 1) (2 * a + 1)
    have h2 : (2 * a + 1) * (2 * a + 1) ≤ 11 * 11 := Nat.mul_le_mul (by omega) (by omega)
    omega
  refine Tw.loopK [0, 1, 5, 6, 7, 9, 4] (fun i : Nat => i ≤ L.length) (fun i => L.length - i) (fun i => [(48, .int .i64 i), (47, .int .i64 L.length), (46, .sla 3 1 0 L.length), (8, .sla 3 1 0 L.length)])
    (fun i => [some (.cells [.int .i64 ((2 * a + 1 : Nat) : Int), .int .i64 ((2 * a + 1 : Nat) : Int), .lst Ey (bm (2 * a + 1) (2 * a + 1) (crF a (2 * a + 1)))]), some (.arr E3i (movTo L i))]) ⟨0, by omega, TWk.fcanon env [some 0, some 1] (by rfl) ?_⟩ (fun i hi => ?_)
  · have e0 := movTo_zero (L := L)
    repeat' (first
      | with_reducible first | refine Tw.seq ?_ | refine Tw.reg ?_ | refine Tw.block ?_ | refine Tw.scope ?_ | refine Tw.skip ?_ | refine Tw.exit ?_ | refine Tw.ret ?_ | refine seqN ?_ | refine seqR ?_ | refine seqE ?_ | refine rndN ?_ | refine blkN ?_ | refine blkR ?_ | refine blkE1 ?_ | refine blkE0 (by kernel_rfl) ?_ | refine scpN ?_ | refine scpR ?_ | refine scpE ?_ | refine TOps.nil ?_ | exact Conj.nil | refine Conj.cons rfl ?_ | refine Conj.same ?_ | refine Conj.ask ?_ ?_ | refine Tw.regd env ?_ | refine TDr.nil ⟨by kernel_rfl, ?_⟩
      | ((with_reducible refine TOps.any ?_); first | refine TOps.frunP env (by rfl) (by rfl) ?_ ?_ | (refine TOps.known (by rfl) ?_; refine TOps.strip env (by rfl) (by rfl) ?_ ?_) | refine TOps.on (by rfl) (by rfl) ?_)
      | ((with_reducible refine TDr.any ?_); refine TDr.frunP env (by rfl) (by rfl) ?_ ?_)
      | ((with_reducible refine Tw.any ?_); first | refine Tw.condT (by rfl) ?_ | refine Tw.condF (by rfl) ?_)
      | ((first | ((with_reducible refine TOps.any ?_); (fail_if_success refine TOps.known (by rfl) ?_); refine TOps.ask (by rfl) (fun h => ?_) (fun h => ?_)) | ((with_reducible refine TDr.any ?_); (fail_if_success refine TDr.known (by first | rfl | assumption) ?_); refine TDr.ask (by rfl) (fun h hk => ?_) (fun h => ?_)) | ((with_reducible refine Tw.any ?_); refine Tw.cond (by rfl) (fun h => ?_) (fun h => ?_))) <;> (try simp only [goS] at h) <;> (try simp only [rdi, rdy, rd2i, rd3i, e0, Int.toNat_natCast, Nat.add_zero] at h))
      | ((with_reducible refine tret.any ?_); first | refine tret.ok (by rfl) ?_ | refine tret.okN (by rfl) ?_)
      | ((with_reducible refine Due.mk ?_); (first | with_reducible rfl | omega | assumption | decide | ((try simp only [goS] at *) <;> (try intro h) <;> (try intro h') <;> (try simp only [goS] at *) <;> (try simp only [rdi, rdy, rd2i, rd3i, e0, Int.toNat_natCast, Nat.add_zero] at *) <;> (try simp only [rng]) <;> (first | assumption | omega)) | (exact due_app0 (by omega)) | (exact due_app (by omega)) | (intros; simp; done) | (intros; simp; omega)))
      | with_reducible refine Due.mk ?_
      | omega)
  have hml := movTo_len (L := L) (i := i)
  rcases Nat.lt_or_ge i L.length with hi | hi
  · obtain ⟨y, p, q, e, _, _, _⟩ := oL _ (getD_mem (d := dR) hi)
    have ea' : (movTo L i).getD i ((0 : Int), (0 : Int), (0 : Int)) = ((y : Int), (p : Int), (q : Int)) := (movTo_at hi).trans e
    have st := movTo_step hi
    repeat' (first
      | with_reducible first | refine Tw.seq ?_ | refine Tw.reg ?_ | refine Tw.block ?_ | refine Tw.scope ?_ | refine Tw.skip ?_ | refine Tw.exit ?_ | refine Tw.ret ?_ | refine seqN ?_ | refine seqR ?_ | refine seqE ?_ | refine rndN ?_ | refine blkN ?_ | refine blkR ?_ | refine blkE1 ?_ | refine blkE0 (by kernel_rfl) ?_ | refine scpN ?_ | refine scpR ?_ | refine scpE ?_ | refine TOps.nil ?_ | exact Conj.nil | refine Conj.cons rfl ?_ | refine Conj.same ?_ | refine Conj.ask ?_ ?_ | refine Tw.regd env ?_ | refine TDr.nil ⟨by kernel_rfl, ?_⟩
      | ((with_reducible refine TOps.any ?_); first | refine TOps.frunP env (by rfl) (by rfl) ?_ ?_ | (refine TOps.known (by rfl) ?_; refine TOps.strip env (by rfl) (by rfl) ?_ ?_) | refine TOps.on (by rfl) (by rfl) ?_)
      | ((with_reducible refine TDr.any ?_); refine TDr.frunP env (by rfl) (by rfl) ?_ ?_)
      | ((with_reducible refine Tw.any ?_); first | refine Tw.condT (by rfl) ?_ | refine Tw.condF (by rfl) ?_)
      | ((first | ((with_reducible refine TOps.any ?_); (fail_if_success refine TOps.known (by rfl) ?_); refine TOps.ask (by rfl) (fun h => ?_) (fun h => ?_)) | ((with_reducible refine TDr.any ?_); (fail_if_success refine TDr.known (by first | rfl | assumption) ?_); refine TDr.ask (by rfl) (fun h hk => ?_) (fun h => ?_)) | ((with_reducible refine Tw.any ?_); refine Tw.cond (by rfl) (fun h => ?_) (fun h => ?_))) <;> (try simp only [goS] at h) <;> (try simp only [rdi, rdy, rd2i, rd3i, ea', hml, Int.toNat_natCast, Nat.add_zero] at h) <;> (try (exfalso; (try simp only [goP, reduceCtorEq] at h) <;> (first | assumption | omega | contradiction | (rcases h with ⟨_, _⟩ <;> first | contradiction | omega) | (rcases h with h | h <;> first | contradiction | omega)))))
      | ((with_reducible refine tret.any ?_); first | refine tret.ok (by rfl) ?_ | refine tret.okN (by rfl) ?_)
      | ((with_reducible refine Due.mk ?_); (first | with_reducible rfl | omega | assumption | decide | ((try simp only [goS] at *) <;> (try intro h) <;> (try intro h') <;> (try simp only [goS] at *) <;> (try simp only [rdi, rdy, rd2i, rd3i, ea', hml, Int.toNat_natCast, Nat.add_zero] at *) <;> (try simp only [rng]) <;> (first | assumption | omega)) | (exact due_app0 (by omega)) | (exact due_app (by omega)) | (intros; simp; done) | (intros; simp; omega)))
      | with_reducible refine Due.mk ?_
      | omega)
    refine ⟨i + 1, by omega, by omega, TWk.fcanon env [some 0, some 1] (by rfl) ?_⟩
    rw [← st, e]
    repeat' (first
      | with_reducible first | refine Tw.seq ?_ | refine Tw.reg ?_ | refine Tw.block ?_ | refine Tw.scope ?_ | refine Tw.skip ?_ | refine Tw.exit ?_ | refine Tw.ret ?_ | refine seqN ?_ | refine seqR ?_ | refine seqE ?_ | refine rndN ?_ | refine blkN ?_ | refine blkR ?_ | refine blkE1 ?_ | refine blkE0 (by kernel_rfl) ?_ | refine scpN ?_ | refine scpR ?_ | refine scpE ?_ | refine TOps.nil ?_ | exact Conj.nil | refine Conj.cons rfl ?_ | refine Conj.same ?_ | refine Conj.ask ?_ ?_ | refine Tw.regd env ?_ | refine TDr.nil ⟨by kernel_rfl, ?_⟩
      | ((with_reducible refine TOps.any ?_); first | refine TOps.frunP env (by rfl) (by rfl) ?_ ?_ | (refine TOps.known (by rfl) ?_; refine TOps.strip env (by rfl) (by rfl) ?_ ?_) | refine TOps.on (by rfl) (by rfl) ?_)
      | ((with_reducible refine TDr.any ?_); refine TDr.frunP env (by rfl) (by rfl) ?_ ?_)
      | ((with_reducible refine Tw.any ?_); first | refine Tw.condT (by rfl) ?_ | refine Tw.condF (by rfl) ?_)
      | ((first | ((with_reducible refine TOps.any ?_); (fail_if_success refine TOps.known (by rfl) ?_); refine TOps.ask (by rfl) (fun h => ?_) (fun h => ?_)) | ((with_reducible refine TDr.any ?_); (fail_if_success refine TDr.known (by first | rfl | assumption) ?_); refine TDr.ask (by rfl) (fun h hk => ?_) (fun h => ?_)) | ((with_reducible refine Tw.any ?_); refine Tw.cond (by rfl) (fun h => ?_) (fun h => ?_))) <;> (try simp only [goS] at h) <;> (try simp only [rdi, rdy, rd2i, rd3i, Int.toNat_natCast, Nat.add_zero] at h))
      | ((with_reducible refine tret.any ?_); first | refine tret.ok (by rfl) ?_ | refine tret.okN (by rfl) ?_)
      | ((with_reducible refine Due.mk ?_); (first | with_reducible rfl | omega | assumption | decide | ((try simp only [goS] at *) <;> (try intro h) <;> (try intro h') <;> (try simp only [goS] at *) <;> (try simp only [rdi, rdy, rd2i, rd3i, Int.toNat_natCast, Nat.add_zero] at *) <;> (try simp only [rng]) <;> (first | assumption | omega)) | (exact due_app0 (by omega)) | (exact due_app (by omega)) | (intros; simp; done) | (intros; simp; omega)))
      | with_reducible refine Due.mk ?_
      | omega)
    have hil : i < (movTo L i).length := by omega
    have g1 : ∀ v : R3, ((movTo L i).set i v).getD i ((0 : Int), (0 : Int), (0 : Int)) = v := fun v => getD_set_eq hil
    have rdd : R.d E3i = ((0 : Int), (0 : Int), (0 : Int)) := rfl
    simp only [Int.toNat_natCast, Nat.add_zero, rdd, ea', g1, List.set_set, shR]
  · obtain rfl : i = L.length := by omega
    have fr := fromRuns_c (2 * a + 13) (2 * a + 13) (L.map shR) (fun i => (L.getD i dR).1.toNat + 6) (fun i => (L.getD i dR).2.1.toNat + 6) (fun i => (L.getD i dR).2.2.toNat + 6) (by omega) (by omega) (by simp; omega)
      (fun i hi => by rw [hL]; exact mkL_at (by rw [← hL]; simpa using hi)) (fun i hi => by
        obtain ⟨y, p, q, e, h⟩ := oL _ (getD_mem (d := dR) (show i < L.length by simpa using hi))
        rw [e]; simp only [Int.toNat_natCast]; omega) (fun i hi => by
        have hi' : i + 1 < L.length := by simpa using hi
        have pL : L.Pairwise ordR := by rw [hL]; exact runsTo_pair _
        have := List.pairwise_iff_getElem.1 pL i (i + 1) (by omega) hi' (by omega)
        rw [← getD_get dR (by omega : i < L.length), ← getD_get dR hi'] at this
        obtain ⟨y, p, q, e, h⟩ := oL _ (getD_mem (d := dR) (show i < L.length by omega))
        obtain ⟨y', p', q', e', h'⟩ := oL _ (getD_mem (d := dR) hi')
        rw [e, e'] at this ⊢
        simp only [ordR, Int.toNat_natCast] at this ⊢
        omega)
    rw [List.length_map, show bm (2 * a + 13) (2 * a + 13) (covN (fun i => (L.getD i dR).1.toNat + 6) (fun i => (L.getD i dR).2.1.toNat + 6) (fun i => (L.getD i dR).2.2.toNat + 6) L.length) = midB a by rw [hL]; exact mid_cov] at fr
    rw [movTo_all]
    refine Tw.frz env 1 (by rfl) (by rfl) (by rfl) ?_ ?_ ?_
    · repeat' (first
        | with_reducible first | refine Tw.seq ?_ | refine Tw.reg ?_ | refine Tw.block ?_ | refine Tw.scope ?_ | refine Tw.skip ?_ | refine Tw.exit ?_ | refine Tw.ret ?_ | refine seqN ?_ | refine seqR ?_ | refine seqE ?_ | refine rndN ?_ | refine blkN ?_ | refine blkR ?_ | refine blkE1 ?_ | refine blkE0 (by kernel_rfl) ?_ | refine scpN ?_ | refine scpR ?_ | refine scpE ?_ | refine TOps.nil ?_ | exact Conj.nil | refine Conj.cons rfl ?_ | refine Conj.same ?_ | refine Conj.ask ?_ ?_ | refine Tw.regd env ?_ | refine TDr.nil ⟨by kernel_rfl, ?_⟩
        | ((with_reducible refine TOps.any ?_); first | refine TOps.frunP env (by rfl) (by rfl) ?_ ?_ | (refine TOps.known (by rfl) ?_; refine TOps.strip env (by rfl) (by rfl) ?_ ?_) | refine TOps.on (by rfl) (by rfl) ?_)
        | ((with_reducible refine TDr.any ?_); refine TDr.frunP env (by rfl) (by rfl) ?_ ?_)
        | ((with_reducible refine Tw.any ?_); first | refine Tw.condT (by rfl) ?_ | refine Tw.condF (by rfl) ?_)
        | ((first | ((with_reducible refine TOps.any ?_); (fail_if_success refine TOps.known (by rfl) ?_); refine TOps.ask (by rfl) (fun h => ?_) (fun h => ?_)) | ((with_reducible refine TDr.any ?_); (fail_if_success refine TDr.known (by first | rfl | assumption) ?_); refine TDr.ask (by rfl) (fun h hk => ?_) (fun h => ?_)) | ((with_reducible refine Tw.any ?_); refine Tw.cond (by rfl) (fun h => ?_) (fun h => ?_))) <;> (try simp only [goS] at h) <;> (try simp only [rdi, rdy, rd2i, rd3i, List.length_map, Int.toNat_natCast, Nat.add_zero] at h))
        | ((with_reducible refine tret.any ?_); first | refine tret.ok (by rfl) ?_ | refine tret.okN (by rfl) ?_)
        | ((with_reducible refine Due.mk ?_); (first | with_reducible rfl | omega | assumption | decide | ((try simp only [goS] at *) <;> (try intro h) <;> (try intro h') <;> (try simp only [goS] at *) <;> (try simp only [rdi, rdy, rd2i, rd3i, List.length_map, Int.toNat_natCast, Nat.add_zero] at *) <;> (try simp only [rng]) <;> (first | assumption | omega)) | (exact due_app0 (by omega)) | (exact due_app (by omega)) | (intros; simp; done) | (intros; simp; omega)))
        | with_reducible refine Due.mk ?_
        | omega)
    · repeat' (first
        | with_reducible first | refine Tw.seq ?_ | refine Tw.reg ?_ | refine Tw.block ?_ | refine Tw.scope ?_ | refine Tw.skip ?_ | refine Tw.exit ?_ | refine Tw.ret ?_ | refine seqN ?_ | refine seqR ?_ | refine seqE ?_ | refine rndN ?_ | refine blkN ?_ | refine blkR ?_ | refine blkE1 ?_ | refine blkE0 (by kernel_rfl) ?_ | refine scpN ?_ | refine scpR ?_ | refine scpE ?_ | refine TOps.nil ?_ | exact Conj.nil | refine Conj.cons rfl ?_ | refine Conj.same ?_ | refine Conj.ask ?_ ?_ | refine Tw.regd env ?_ | refine TDr.nil ⟨by kernel_rfl, ?_⟩
        | ((with_reducible refine TOps.any ?_); first | refine TOps.frunP env (by rfl) (by rfl) ?_ ?_ | (refine TOps.known (by rfl) ?_; refine TOps.strip env (by rfl) (by rfl) ?_ ?_) | refine TOps.on (by rfl) (by rfl) ?_)
        | ((with_reducible refine TDr.any ?_); refine TDr.frunP env (by rfl) (by rfl) ?_ ?_)
        | ((with_reducible refine Tw.any ?_); first | refine Tw.condT (by rfl) ?_ | refine Tw.condF (by rfl) ?_)
        | ((first | ((with_reducible refine TOps.any ?_); (fail_if_success refine TOps.known (by rfl) ?_); refine TOps.ask (by rfl) (fun h => ?_) (fun h => ?_)) | ((with_reducible refine TDr.any ?_); (fail_if_success refine TDr.known (by first | rfl | assumption) ?_); refine TDr.ask (by rfl) (fun h hk => ?_) (fun h => ?_)) | ((with_reducible refine Tw.any ?_); refine Tw.cond (by rfl) (fun h => ?_) (fun h => ?_))) <;> (try simp only [goS] at h) <;> (try simp only [rdi, rdy, rd2i, rd3i, Int.toNat_natCast, Nat.add_zero] at h))
        | ((with_reducible refine tret.any ?_); first | refine tret.ok (by rfl) ?_ | refine tret.okN (by rfl) ?_)
        | ((with_reducible refine Due.mk ?_); (first | with_reducible rfl | omega | assumption | decide | ((try simp only [goS] at *) <;> (try intro h) <;> (try intro h') <;> (try simp only [goS] at *) <;> (try simp only [rdi, rdy, rd2i, rd3i, Int.toNat_natCast, Nat.add_zero] at *) <;> (try simp only [rng]) <;> (first | assumption | omega)) | (exact due_app0 (by omega)) | (exact due_app (by omega)) | (intros; simp; done) | (intros; simp; omega)))
        | with_reducible refine Due.mk ?_
        | omega)
    have ecut : cut (L.map shR) 0 L.length = L.map shR := cut_all (by simp)
    rw [← ecut] at fr
    have eS : ((2 * a + 13 : Nat) : Int) = 2 * (a : Int) + 13 := by omega
    rw [eS] at fr
    repeat' (first
      | ((with_reducible refine TOps.any ?_); refine TOps.callV env (by rfl) (by rfl) (by rfl) (fr) ?_)
      | with_reducible first | refine Tw.seq ?_ | refine Tw.reg ?_ | refine Tw.block ?_ | refine Tw.scope ?_ | refine Tw.skip ?_ | refine Tw.exit ?_ | refine Tw.ret ?_ | refine seqN ?_ | refine seqR ?_ | refine seqE ?_ | refine rndN ?_ | refine blkN ?_ | refine blkR ?_ | refine blkE1 ?_ | refine blkE0 (by kernel_rfl) ?_ | refine scpN ?_ | refine scpR ?_ | refine scpE ?_ | refine TOps.nil ?_ | exact Conj.nil | refine Conj.cons rfl ?_ | refine Conj.same ?_ | refine Conj.ask ?_ ?_ | refine Tw.regd env ?_ | refine TDr.nil ⟨by kernel_rfl, ?_⟩
      | ((with_reducible refine TOps.any ?_); first | refine TOps.frunP env (by rfl) (by rfl) ?_ ?_ | (refine TOps.known (by rfl) ?_; refine TOps.strip env (by rfl) (by rfl) ?_ ?_) | refine TOps.on (by rfl) (by rfl) ?_)
      | ((with_reducible refine TDr.any ?_); refine TDr.frunP env (by rfl) (by rfl) ?_ ?_)
      | ((with_reducible refine Tw.any ?_); first | refine Tw.condT (by rfl) ?_ | refine Tw.condF (by rfl) ?_)
      | ((first | ((with_reducible refine TOps.any ?_); (fail_if_success refine TOps.known (by rfl) ?_); refine TOps.ask (by rfl) (fun h => ?_) (fun h => ?_)) | ((with_reducible refine TDr.any ?_); (fail_if_success refine TDr.known (by first | rfl | assumption) ?_); refine TDr.ask (by rfl) (fun h hk => ?_) (fun h => ?_)) | ((with_reducible refine Tw.any ?_); refine Tw.cond (by rfl) (fun h => ?_) (fun h => ?_))) <;> (try simp only [goS] at h) <;> (try simp only [rdi, rdy, rd2i, rd3i, Int.toNat_natCast, Nat.add_zero] at h) <;> (try (exfalso; (try simp only [goP, reduceCtorEq] at h) <;> (first | assumption | omega | contradiction | (rcases h with ⟨_, _⟩ <;> first | contradiction | omega) | (rcases h with h | h <;> first | contradiction | omega)))))
      | ((with_reducible refine tret.any ?_); first | refine tret.ok (by rfl) ?_ | refine tret.okN (by rfl) ?_)
      | ((with_reducible refine Due.mk ?_); (first | with_reducible rfl | omega | assumption | decide | ((try simp only [goS] at *) <;> (try intro h) <;> (try intro h') <;> (try simp only [goS] at *) <;> (try simp only [rdi, rdy, rd2i, rd3i, Int.toNat_natCast, Nat.add_zero] at *) <;> (try simp only [rng]) <;> (first | assumption | omega)) | (exact due_app0 (by omega)) | (exact due_app (by omega)) | (intros; simp; done) | (intros; simp; omega)))
      | with_reducible refine Due.mk ?_
      | omega)
    refine Tw.loopK [0, 1, 5, 7, 9, 13, 4, 15] (fun i : Nat => i ≤ n) (fun i => n - i) (fun i => [(93, .int .i64 i), (92, .int .i64 n), (12, .ptr 0 0), (14, .sla 3 1 0 i), (16, .sla 2 2 0 i)])
      (fun i => [some (.cells [.int .i64 (2 * (a : Int) + 13), .int .i64 (2 * (a : Int) + 13), .lst Ey (midB a)]), some (.arr E2iLyJ (List.replicate i (2 * (a : Int) + 13, 2 * (a : Int) + 13, midB a))), some (.arr E2i (tab i (offP ss)))]) ⟨0, by omega, TWk.fcanon env [some 2, none, none] (by rfl) ?_⟩ (fun i hi => ?_)
    · repeat' (first
        | with_reducible first | refine Tw.seq ?_ | refine Tw.reg ?_ | refine Tw.block ?_ | refine Tw.scope ?_ | refine Tw.skip ?_ | refine Tw.exit ?_ | refine Tw.ret ?_ | refine seqN ?_ | refine seqR ?_ | refine seqE ?_ | refine rndN ?_ | refine blkN ?_ | refine blkR ?_ | refine blkE1 ?_ | refine blkE0 (by kernel_rfl) ?_ | refine scpN ?_ | refine scpR ?_ | refine scpE ?_ | refine TOps.nil ?_ | exact Conj.nil | refine Conj.cons rfl ?_ | refine Conj.same ?_ | refine Conj.ask ?_ ?_ | refine Tw.regd env ?_ | refine TDr.nil ⟨by kernel_rfl, ?_⟩
        | ((with_reducible refine TOps.any ?_); first | refine TOps.frunP env (by rfl) (by rfl) ?_ ?_ | (refine TOps.known (by rfl) ?_; refine TOps.strip env (by rfl) (by rfl) ?_ ?_) | refine TOps.on (by rfl) (by rfl) ?_)
        | ((with_reducible refine TDr.any ?_); refine TDr.frunP env (by rfl) (by rfl) ?_ ?_)
        | ((with_reducible refine Tw.any ?_); first | refine Tw.condT (by rfl) ?_ | refine Tw.condF (by rfl) ?_)
        | ((first | ((with_reducible refine TOps.any ?_); (fail_if_success refine TOps.known (by rfl) ?_); refine TOps.ask (by rfl) (fun h => ?_) (fun h => ?_)) | ((with_reducible refine TDr.any ?_); (fail_if_success refine TDr.known (by first | rfl | assumption) ?_); refine TDr.ask (by rfl) (fun h hk => ?_) (fun h => ?_)) | ((with_reducible refine Tw.any ?_); refine Tw.cond (by rfl) (fun h => ?_) (fun h => ?_))) <;> (try simp only [goS] at h) <;> (try simp only [rdi, rdy, rd2i, rd3i, Int.toNat_natCast, Nat.add_zero] at h))
        | ((with_reducible refine tret.any ?_); first | refine tret.ok (by rfl) ?_ | refine tret.okN (by rfl) ?_)
        | ((with_reducible refine Due.mk ?_); (first | with_reducible rfl | omega | assumption | decide | ((try simp only [goS] at *) <;> (try intro h) <;> (try intro h') <;> (try simp only [goS] at *) <;> (try simp only [rdi, rdy, rd2i, rd3i, Int.toNat_natCast, Nat.add_zero] at *) <;> (try simp only [rng]) <;> (first | assumption | omega)) | (exact due_app0 (by omega)) | (exact due_app (by omega)) | (intros; simp; done) | (intros; simp; omega)))
        | with_reducible refine Due.mk ?_
        | omega)
    rcases Nat.lt_or_ge i n with hi | hi
    · have ht : (tab i (offP ss)).length = i := tab_len
      have hr : (List.replicate i ((2 * (a : Int) + 13, 2 * (a : Int) + 13, midB a) : Bt)).length = i := by simp
      by_cases hs : i < ss.length
      · have wi := ws.2 _ (getD_mem (d := ((0 : Int), (0 : Int))) hs)
        simp only [W2i, rng] at wi
        have mx := rMod_c (ss.getD i ((0 : Int), (0 : Int))).1 13 (by unfold Due; omega)
        have my := rMod_c (ss.getD i ((0 : Int), (0 : Int))).2 13 (by unfold Due; omega)
        repeat' (first
          | ((with_reducible refine TDr.any ?_); refine TDr.callE env (by first | rfl | assumption) (by rfl) (by rfl) ?_ (mx) (by rfl) (by rfl) ?_)
          | ((with_reducible refine TDr.any ?_); refine TDr.callE env (by first | rfl | assumption) (by rfl) (by rfl) ?_ (my) (by rfl) (by rfl) ?_)
          | with_reducible first | refine Tw.seq ?_ | refine Tw.reg ?_ | refine Tw.block ?_ | refine Tw.scope ?_ | refine Tw.skip ?_ | refine Tw.exit ?_ | refine Tw.ret ?_ | refine seqN ?_ | refine seqR ?_ | refine seqE ?_ | refine rndN ?_ | refine blkN ?_ | refine blkR ?_ | refine blkE1 ?_ | refine blkE0 (by kernel_rfl) ?_ | refine scpN ?_ | refine scpR ?_ | refine scpE ?_ | refine TOps.nil ?_ | exact Conj.nil | refine Conj.cons rfl ?_ | refine Conj.same ?_ | refine Conj.ask ?_ ?_ | refine Tw.regd env ?_ | refine TDr.nil ⟨by kernel_rfl, ?_⟩
          | ((with_reducible refine TOps.any ?_); first | refine TOps.frunP env (by rfl) (by rfl) ?_ ?_ | (refine TOps.known (by rfl) ?_; refine TOps.strip env (by rfl) (by rfl) ?_ ?_) | refine TOps.on (by rfl) (by rfl) ?_)
          | ((with_reducible refine TDr.any ?_); refine TDr.frunP env (by rfl) (by rfl) ?_ ?_)
          | ((with_reducible refine Tw.any ?_); first | refine Tw.condT (by rfl) ?_ | refine Tw.condF (by rfl) ?_)
          | ((first | ((with_reducible refine TOps.any ?_); (fail_if_success refine TOps.known (by rfl) ?_); refine TOps.ask (by rfl) (fun h => ?_) (fun h => ?_)) | ((with_reducible refine TDr.any ?_); (fail_if_success refine TDr.known (by first | rfl | assumption) ?_); refine TDr.ask (by rfl) (fun h hk => ?_) (fun h => ?_)) | ((with_reducible refine Tw.any ?_); refine Tw.cond (by rfl) (fun h => ?_) (fun h => ?_))) <;> (try simp only [goS] at h) <;> (try simp only [rdi, rdy, rd2i, rd3i, Int.toNat_natCast, Nat.add_zero] at h) <;> (try (exfalso; (try simp only [goP, reduceCtorEq] at h) <;> (first | assumption | omega | contradiction | (rcases h with ⟨_, _⟩ <;> first | contradiction | omega) | (rcases h with h | h <;> first | contradiction | omega)))))
          | ((with_reducible refine tret.any ?_); first | refine tret.ok (by rfl) ?_ | refine tret.okN (by rfl) ?_)
          | ((with_reducible refine Due.mk ?_); (first | with_reducible rfl | omega | assumption | decide | ((try simp only [goS] at *) <;> (try intro h) <;> (try intro h') <;> (try simp only [goS] at *) <;> (try simp only [rdi, rdy, rd2i, rd3i, Int.toNat_natCast, Nat.add_zero] at *) <;> (try simp only [rng]) <;> (first | assumption | omega)) | (exact due_app0 (by omega)) | (exact due_app (by omega)) | (intros; simp; done) | (intros; simp; omega)))
          | with_reducible refine Due.mk ?_
          | omega)
        have e0 : offP ss i = ((ss.getD i ((0 : Int), (0 : Int))).1 % 13 - 6, (ss.getD i ((0 : Int), (0 : Int))).2 % 13 - 6) := by unfold offP; rw [if_pos hs]
        have e1 : List.replicate (i + 1) ((2 * (a : Int) + 13, 2 * (a : Int) + 13, midB a) : Bt) = cut (List.replicate i ((2 * (a : Int) + 13, 2 * (a : Int) + 13, midB a) : Bt)) 0 i ++ cut [((2 * (a : Int) + 13, 2 * (a : Int) + 13, midB a) : Bt)] 0 1 := by rw [cut_all hr.symm, List.replicate_succ']; rfl
        have e2 : tab (i + 1) (offP ss) = cut (tab i (offP ss)) 0 i ++ cut [(((ss.getD i ((0 : Int), (0 : Int))).1 % 13 - 6, (ss.getD i ((0 : Int), (0 : Int))).2 % 13 - 6) : Int × Int)] 0 1 := by rw [tab_succ, cut_all ht.symm, e0]; rfl
        have e3 : i + 1 = i + (cut [((2 * (a : Int) + 13, 2 * (a : Int) + 13, midB a) : Bt)] 0 1).length := rfl
        have e4 : i + 1 = i + (cut [(((ss.getD i ((0 : Int), (0 : Int))).1 % 13 - 6, (ss.getD i ((0 : Int), (0 : Int))).2 % 13 - 6) : Int × Int)] 0 1).length := rfl
        refine ⟨i + 1, by omega, by omega, TWk.fcanon env [some 0, some 5, some 7] (by rfl) ?_⟩
        repeat' (first
          | exact e1
          | exact e2
          | exact e3
          | exact e4
          | with_reducible first | refine Tw.seq ?_ | refine Tw.reg ?_ | refine Tw.block ?_ | refine Tw.scope ?_ | refine Tw.skip ?_ | refine Tw.exit ?_ | refine Tw.ret ?_ | refine seqN ?_ | refine seqR ?_ | refine seqE ?_ | refine rndN ?_ | refine blkN ?_ | refine blkR ?_ | refine blkE1 ?_ | refine blkE0 (by kernel_rfl) ?_ | refine scpN ?_ | refine scpR ?_ | refine scpE ?_ | refine TOps.nil ?_ | exact Conj.nil | refine Conj.cons rfl ?_ | refine Conj.same ?_ | refine Conj.ask ?_ ?_ | refine Tw.regd env ?_ | refine TDr.nil ⟨by kernel_rfl, ?_⟩
          | ((with_reducible refine TOps.any ?_); first | refine TOps.frunP env (by rfl) (by rfl) ?_ ?_ | (refine TOps.known (by rfl) ?_; refine TOps.strip env (by rfl) (by rfl) ?_ ?_) | refine TOps.on (by rfl) (by rfl) ?_)
          | ((with_reducible refine TDr.any ?_); refine TDr.frunP env (by rfl) (by rfl) ?_ ?_)
          | ((with_reducible refine Tw.any ?_); first | refine Tw.condT (by rfl) ?_ | refine Tw.condF (by rfl) ?_)
          | ((first | ((with_reducible refine TOps.any ?_); (fail_if_success refine TOps.known (by rfl) ?_); refine TOps.ask (by rfl) (fun h => ?_) (fun h => ?_)) | ((with_reducible refine TDr.any ?_); (fail_if_success refine TDr.known (by first | rfl | assumption) ?_); refine TDr.ask (by rfl) (fun h hk => ?_) (fun h => ?_)) | ((with_reducible refine Tw.any ?_); refine Tw.cond (by rfl) (fun h => ?_) (fun h => ?_))) <;> (try simp only [goS] at h) <;> (try simp only [rdi, rdy, rd2i, rd3i, Int.toNat_natCast, Nat.add_zero] at h))
          | ((with_reducible refine tret.any ?_); first | refine tret.ok (by rfl) ?_ | refine tret.okN (by rfl) ?_)
          | ((with_reducible refine Due.mk ?_); (first | with_reducible rfl | omega | assumption | decide | ((try simp only [goS] at *) <;> (try intro h) <;> (try intro h') <;> (try simp only [goS] at *) <;> (try simp only [rdi, rdy, rd2i, rd3i, Int.toNat_natCast, Nat.add_zero] at *) <;> (try simp only [rng]) <;> (first | assumption | omega)) | (exact due_app0 (by omega)) | (exact due_app (by omega)) | (intros; simp; done) | (intros; simp; omega)))
          | with_reducible refine Due.mk ?_
          | omega)
      · repeat' (first
          | with_reducible first | refine Tw.seq ?_ | refine Tw.reg ?_ | refine Tw.block ?_ | refine Tw.scope ?_ | refine Tw.skip ?_ | refine Tw.exit ?_ | refine Tw.ret ?_ | refine seqN ?_ | refine seqR ?_ | refine seqE ?_ | refine rndN ?_ | refine blkN ?_ | refine blkR ?_ | refine blkE1 ?_ | refine blkE0 (by kernel_rfl) ?_ | refine scpN ?_ | refine scpR ?_ | refine scpE ?_ | refine TOps.nil ?_ | exact Conj.nil | refine Conj.cons rfl ?_ | refine Conj.same ?_ | refine Conj.ask ?_ ?_ | refine Tw.regd env ?_ | refine TDr.nil ⟨by kernel_rfl, ?_⟩
          | ((with_reducible refine TOps.any ?_); first | refine TOps.frunP env (by rfl) (by rfl) ?_ ?_ | (refine TOps.known (by rfl) ?_; refine TOps.strip env (by rfl) (by rfl) ?_ ?_) | refine TOps.on (by rfl) (by rfl) ?_)
          | ((with_reducible refine TDr.any ?_); refine TDr.frunP env (by rfl) (by rfl) ?_ ?_)
          | ((with_reducible refine Tw.any ?_); first | refine Tw.condT (by rfl) ?_ | refine Tw.condF (by rfl) ?_)
          | ((first | ((with_reducible refine TOps.any ?_); (fail_if_success refine TOps.known (by rfl) ?_); refine TOps.ask (by rfl) (fun h => ?_) (fun h => ?_)) | ((with_reducible refine TDr.any ?_); (fail_if_success refine TDr.known (by first | rfl | assumption) ?_); refine TDr.ask (by rfl) (fun h hk => ?_) (fun h => ?_)) | ((with_reducible refine Tw.any ?_); refine Tw.cond (by rfl) (fun h => ?_) (fun h => ?_))) <;> (try simp only [goS] at h) <;> (try simp only [rdi, rdy, rd2i, rd3i, Int.toNat_natCast, Nat.add_zero] at h) <;> (try (exfalso; (try simp only [goP, reduceCtorEq] at h) <;> (first | assumption | omega | contradiction | (rcases h with ⟨_, _⟩ <;> first | contradiction | omega) | (rcases h with h | h <;> first | contradiction | omega)))))
          | ((with_reducible refine tret.any ?_); first | refine tret.ok (by rfl) ?_ | refine tret.okN (by rfl) ?_)
          | ((with_reducible refine Due.mk ?_); (first | with_reducible rfl | omega | assumption | decide | ((try simp only [goS] at *) <;> (try intro h) <;> (try intro h') <;> (try simp only [goS] at *) <;> (try simp only [rdi, rdy, rd2i, rd3i, Int.toNat_natCast, Nat.add_zero] at *) <;> (try simp only [rng]) <;> (first | assumption | omega)) | (exact due_app0 (by omega)) | (exact due_app (by omega)) | (intros; simp; done) | (intros; simp; omega)))
          | with_reducible refine Due.mk ?_
          | omega)
        have e0 : offP ss i = ((0 : Int), (0 : Int)) := by unfold offP; rw [if_neg hs]
        have e1 : List.replicate (i + 1) ((2 * (a : Int) + 13, 2 * (a : Int) + 13, midB a) : Bt) = cut (List.replicate i ((2 * (a : Int) + 13, 2 * (a : Int) + 13, midB a) : Bt)) 0 i ++ cut [((2 * (a : Int) + 13, 2 * (a : Int) + 13, midB a) : Bt)] 0 1 := by rw [cut_all hr.symm, List.replicate_succ']; rfl
        have e2 : tab (i + 1) (offP ss) = cut (tab i (offP ss)) 0 i ++ cut [(((0 : Int), (0 : Int)) : Int × Int)] 0 1 := by rw [tab_succ, cut_all ht.symm, e0]; rfl
        have e3 : i + 1 = i + (cut [((2 * (a : Int) + 13, 2 * (a : Int) + 13, midB a) : Bt)] 0 1).length := rfl
        have e4 : i + 1 = i + (cut [(((0 : Int), (0 : Int)) : Int × Int)] 0 1).length := rfl
        refine ⟨i + 1, by omega, by omega, TWk.fcanon env [some 0, some 5, some 7] (by rfl) ?_⟩
        repeat' (first
          | exact e1
          | exact e2
          | exact e3
          | exact e4
          | with_reducible first | refine Tw.seq ?_ | refine Tw.reg ?_ | refine Tw.block ?_ | refine Tw.scope ?_ | refine Tw.skip ?_ | refine Tw.exit ?_ | refine Tw.ret ?_ | refine seqN ?_ | refine seqR ?_ | refine seqE ?_ | refine rndN ?_ | refine blkN ?_ | refine blkR ?_ | refine blkE1 ?_ | refine blkE0 (by kernel_rfl) ?_ | refine scpN ?_ | refine scpR ?_ | refine scpE ?_ | refine TOps.nil ?_ | exact Conj.nil | refine Conj.cons rfl ?_ | refine Conj.same ?_ | refine Conj.ask ?_ ?_ | refine Tw.regd env ?_ | refine TDr.nil ⟨by kernel_rfl, ?_⟩
          | ((with_reducible refine TOps.any ?_); first | refine TOps.frunP env (by rfl) (by rfl) ?_ ?_ | (refine TOps.known (by rfl) ?_; refine TOps.strip env (by rfl) (by rfl) ?_ ?_) | refine TOps.on (by rfl) (by rfl) ?_)
          | ((with_reducible refine TDr.any ?_); refine TDr.frunP env (by rfl) (by rfl) ?_ ?_)
          | ((with_reducible refine Tw.any ?_); first | refine Tw.condT (by rfl) ?_ | refine Tw.condF (by rfl) ?_)
          | ((first | ((with_reducible refine TOps.any ?_); (fail_if_success refine TOps.known (by rfl) ?_); refine TOps.ask (by rfl) (fun h => ?_) (fun h => ?_)) | ((with_reducible refine TDr.any ?_); (fail_if_success refine TDr.known (by first | rfl | assumption) ?_); refine TDr.ask (by rfl) (fun h hk => ?_) (fun h => ?_)) | ((with_reducible refine Tw.any ?_); refine Tw.cond (by rfl) (fun h => ?_) (fun h => ?_))) <;> (try simp only [goS] at h) <;> (try simp only [rdi, rdy, rd2i, rd3i, Int.toNat_natCast, Nat.add_zero] at h))
          | ((with_reducible refine tret.any ?_); first | refine tret.ok (by rfl) ?_ | refine tret.okN (by rfl) ?_)
          | ((with_reducible refine Due.mk ?_); (first | with_reducible rfl | omega | assumption | decide | ((try simp only [goS] at *) <;> (try intro h) <;> (try intro h') <;> (try simp only [goS] at *) <;> (try simp only [rdi, rdy, rd2i, rd3i, Int.toNat_natCast, Nat.add_zero] at *) <;> (try simp only [rng]) <;> (first | assumption | omega)) | (exact due_app0 (by omega)) | (exact due_app (by omega)) | (intros; simp; done) | (intros; simp; omega)))
          | with_reducible refine Due.mk ?_
          | omega)
    · obtain rfl : i = n := by omega
      have ht : (tab i (offP ss)).length = i := tab_len
      obtain ⟨l, hl⟩ : ∃ l : List Bt, l = List.replicate i ((2 * (a : Int) + 13, 2 * (a : Int) + 13, midB a) : Bt) := ⟨_, rfl⟩
      have hll2 : l.length = i := by rw [hl]; simp
      have hX : ∀ t, t < l.length → l.getD t dBt = ((2 * (a : Int) + 13, 2 * (a : Int) + 13, midB a) : Bt) := fun t ht' => by rw [hl]; exact getD_repl (by omega)
      have okB := mid_ok ha
      have hgl : (List.replicate i (0 : Int)).length = l.length := by simp [hll2]
      have hoff : ∀ t, t < l.length → (tab i (offP ss)).getD t ((0 : Int), (0 : Int)) = offP ss t := fun t ht' => tab_get (by omega)
      have pc := print_s (2 * a + 13) (2 * a + 13) l (List.replicate i 0) (tab i (offP ss)) (fun t ht' => by rw [hX t ht']; exact okB.byte) hgl (by rw [tab_len, hll2]) (fun t ht' => getD_repl (by omega))
        (fun t ht' => by rw [hoff t ht']; have := offP_bd (ss := ss) (k := t); omega)
        ⟨by omega, by omega, fun t ht' => by
          rw [hX t ht', hX 0 (by omega)]
          exact ⟨(bitsE_ok okB.byte).2 ⟨_, _, eS.symm, eS.symm, okB⟩, rfl, rfl⟩⟩
        (fun t x y => px (2 * a + 13) (2 * a + 13) (midB a) ((x : Int) - (offP ss t).1) ((y : Int) - (offP ss t).2)) (fun t x y ht' => by rw [hX t ht', hoff t ht']) (fun t ht' => by rw [hX t ht']; exact ⟨eS.symm, eS.symm, okB⟩)
      rw [← hl]
      repeat' (first
        | with_reducible first | refine Tw.seq ?_ | refine Tw.reg ?_ | refine Tw.block ?_ | refine Tw.scope ?_ | refine Tw.skip ?_ | refine Tw.exit ?_ | refine Tw.ret ?_ | refine seqN ?_ | refine seqR ?_ | refine seqE ?_ | refine rndN ?_ | refine blkN ?_ | refine blkR ?_ | refine blkE1 ?_ | refine blkE0 (by kernel_rfl) ?_ | refine scpN ?_ | refine scpR ?_ | refine scpE ?_ | refine TOps.nil ?_ | exact Conj.nil | refine Conj.cons rfl ?_ | refine Conj.same ?_ | refine Conj.ask ?_ ?_ | refine Tw.regd env ?_ | refine TDr.nil ⟨by kernel_rfl, ?_⟩
        | ((with_reducible refine TOps.any ?_); first | refine TOps.frunP env (by rfl) (by rfl) ?_ ?_ | (refine TOps.known (by rfl) ?_; refine TOps.strip env (by rfl) (by rfl) ?_ ?_) | refine TOps.on (by rfl) (by rfl) ?_)
        | ((with_reducible refine TDr.any ?_); refine TDr.frunP env (by rfl) (by rfl) ?_ ?_)
        | ((with_reducible refine Tw.any ?_); first | refine Tw.condT (by rfl) ?_ | refine Tw.condF (by rfl) ?_)
        | ((first | ((with_reducible refine TOps.any ?_); (fail_if_success refine TOps.known (by rfl) ?_); refine TOps.ask (by rfl) (fun h => ?_) (fun h => ?_)) | ((with_reducible refine TDr.any ?_); (fail_if_success refine TDr.known (by first | rfl | assumption) ?_); refine TDr.ask (by rfl) (fun h hk => ?_) (fun h => ?_)) | ((with_reducible refine Tw.any ?_); refine Tw.cond (by rfl) (fun h => ?_) (fun h => ?_))) <;> (try simp only [goS] at h) <;> (try simp only [rdi, rdy, rd2i, rd3i, Int.toNat_natCast, Nat.add_zero] at h) <;> (try (exfalso; (try simp only [goP, reduceCtorEq] at h) <;> (first | assumption | omega | contradiction | (rcases h with ⟨_, _⟩ <;> first | contradiction | omega) | (rcases h with h | h <;> first | contradiction | omega)))))
        | ((with_reducible refine tret.any ?_); first | refine tret.ok (by rfl) ?_ | refine tret.okN (by rfl) ?_)
        | ((with_reducible refine Due.mk ?_); (first | with_reducible rfl | omega | assumption | decide | ((try simp only [goS] at *) <;> (try intro h) <;> (try intro h') <;> (try simp only [goS] at *) <;> (try simp only [rdi, rdy, rd2i, rd3i, Int.toNat_natCast, Nat.add_zero] at *) <;> (try simp only [rng]) <;> (first | assumption | omega)) | (exact due_app0 (by omega)) | (exact due_app (by omega)) | (intros; simp; done) | (intros; simp; omega)))
        | with_reducible refine Due.mk ?_
        | omega)
      refine TOps.frz env 1 (by rfl) (by rfl) (by rfl) ?_ ?_ ?_
      · repeat' (first
          | with_reducible first | refine Tw.seq ?_ | refine Tw.reg ?_ | refine Tw.block ?_ | refine Tw.scope ?_ | refine Tw.skip ?_ | refine Tw.exit ?_ | refine Tw.ret ?_ | refine seqN ?_ | refine seqR ?_ | refine seqE ?_ | refine rndN ?_ | refine blkN ?_ | refine blkR ?_ | refine blkE1 ?_ | refine blkE0 (by kernel_rfl) ?_ | refine scpN ?_ | refine scpR ?_ | refine scpE ?_ | refine TOps.nil ?_ | exact Conj.nil | refine Conj.cons rfl ?_ | refine Conj.same ?_ | refine Conj.ask ?_ ?_ | refine Tw.regd env ?_ | refine TDr.nil ⟨by kernel_rfl, ?_⟩
          | ((with_reducible refine TOps.any ?_); first | refine TOps.frunP env (by rfl) (by rfl) ?_ ?_ | (refine TOps.known (by rfl) ?_; refine TOps.strip env (by rfl) (by rfl) ?_ ?_) | refine TOps.on (by rfl) (by rfl) ?_)
          | ((with_reducible refine TDr.any ?_); refine TDr.frunP env (by rfl) (by rfl) ?_ ?_)
          | ((with_reducible refine Tw.any ?_); first | refine Tw.condT (by rfl) ?_ | refine Tw.condF (by rfl) ?_)
          | ((first | ((with_reducible refine TOps.any ?_); (fail_if_success refine TOps.known (by rfl) ?_); refine TOps.ask (by rfl) (fun h => ?_) (fun h => ?_)) | ((with_reducible refine TDr.any ?_); (fail_if_success refine TDr.known (by first | rfl | assumption) ?_); refine TDr.ask (by rfl) (fun h hk => ?_) (fun h => ?_)) | ((with_reducible refine Tw.any ?_); refine Tw.cond (by rfl) (fun h => ?_) (fun h => ?_))) <;> (try simp only [goS] at h) <;> (try simp only [rdi, rdy, rd2i, rd3i, Int.toNat_natCast, Nat.add_zero] at h))
          | ((with_reducible refine tret.any ?_); first | refine tret.ok (by rfl) ?_ | refine tret.okN (by rfl) ?_)
          | ((with_reducible refine Due.mk ?_); (first | with_reducible rfl | omega | assumption | decide | ((try simp only [goS] at *) <;> (try intro h) <;> (try intro h') <;> (try simp only [goS] at *) <;> (try simp only [rdi, rdy, rd2i, rd3i, Int.toNat_natCast, Nat.add_zero] at *) <;> (try simp only [rng]) <;> (first | assumption | omega)) | (exact due_app0 (by omega)) | (exact due_app (by omega)) | (intros; simp; done) | (intros; simp; omega)))
          | with_reducible refine Due.mk ?_
          | omega)
      · repeat' (first
          | with_reducible first | refine Tw.seq ?_ | refine Tw.reg ?_ | refine Tw.block ?_ | refine Tw.scope ?_ | refine Tw.skip ?_ | refine Tw.exit ?_ | refine Tw.ret ?_ | refine seqN ?_ | refine seqR ?_ | refine seqE ?_ | refine rndN ?_ | refine blkN ?_ | refine blkR ?_ | refine blkE1 ?_ | refine blkE0 (by kernel_rfl) ?_ | refine scpN ?_ | refine scpR ?_ | refine scpE ?_ | refine TOps.nil ?_ | exact Conj.nil | refine Conj.cons rfl ?_ | refine Conj.same ?_ | refine Conj.ask ?_ ?_ | refine Tw.regd env ?_ | refine TDr.nil ⟨by kernel_rfl, ?_⟩
          | ((with_reducible refine TOps.any ?_); first | refine TOps.frunP env (by rfl) (by rfl) ?_ ?_ | (refine TOps.known (by rfl) ?_; refine TOps.strip env (by rfl) (by rfl) ?_ ?_) | refine TOps.on (by rfl) (by rfl) ?_)
          | ((with_reducible refine TDr.any ?_); refine TDr.frunP env (by rfl) (by rfl) ?_ ?_)
          | ((with_reducible refine Tw.any ?_); first | refine Tw.condT (by rfl) ?_ | refine Tw.condF (by rfl) ?_)
          | ((first | ((with_reducible refine TOps.any ?_); (fail_if_success refine TOps.known (by rfl) ?_); refine TOps.ask (by rfl) (fun h => ?_) (fun h => ?_)) | ((with_reducible refine TDr.any ?_); (fail_if_success refine TDr.known (by first | rfl | assumption) ?_); refine TDr.ask (by rfl) (fun h hk => ?_) (fun h => ?_)) | ((with_reducible refine Tw.any ?_); refine Tw.cond (by rfl) (fun h => ?_) (fun h => ?_))) <;> (try simp only [goS] at h) <;> (try simp only [rdi, rdy, rd2i, rd3i, Int.toNat_natCast, Nat.add_zero] at h))
          | ((with_reducible refine tret.any ?_); first | refine tret.ok (by rfl) ?_ | refine tret.okN (by rfl) ?_)
          | ((with_reducible refine Due.mk ?_); (first | with_reducible rfl | omega | assumption | decide | ((try simp only [goS] at *) <;> (try intro h) <;> (try intro h') <;> (try simp only [goS] at *) <;> (try simp only [rdi, rdy, rd2i, rd3i, Int.toNat_natCast, Nat.add_zero] at *) <;> (try simp only [rng]) <;> (first | assumption | omega)) | (exact due_app0 (by omega)) | (exact due_app (by omega)) | (intros; simp; done) | (intros; simp; omega)))
          | with_reducible refine Due.mk ?_
          | omega)
      refine TOps.frz env 2 (by rfl) (by rfl) (by rfl) ?_ ?_ ?_
      · repeat' (first
          | with_reducible first | refine Tw.seq ?_ | refine Tw.reg ?_ | refine Tw.block ?_ | refine Tw.scope ?_ | refine Tw.skip ?_ | refine Tw.exit ?_ | refine Tw.ret ?_ | refine seqN ?_ | refine seqR ?_ | refine seqE ?_ | refine rndN ?_ | refine blkN ?_ | refine blkR ?_ | refine blkE1 ?_ | refine blkE0 (by kernel_rfl) ?_ | refine scpN ?_ | refine scpR ?_ | refine scpE ?_ | refine TOps.nil ?_ | exact Conj.nil | refine Conj.cons rfl ?_ | refine Conj.same ?_ | refine Conj.ask ?_ ?_ | refine Tw.regd env ?_ | refine TDr.nil ⟨by kernel_rfl, ?_⟩
          | ((with_reducible refine TOps.any ?_); first | refine TOps.frunP env (by rfl) (by rfl) ?_ ?_ | (refine TOps.known (by rfl) ?_; refine TOps.strip env (by rfl) (by rfl) ?_ ?_) | refine TOps.on (by rfl) (by rfl) ?_)
          | ((with_reducible refine TDr.any ?_); refine TDr.frunP env (by rfl) (by rfl) ?_ ?_)
          | ((with_reducible refine Tw.any ?_); first | refine Tw.condT (by rfl) ?_ | refine Tw.condF (by rfl) ?_)
          | ((first | ((with_reducible refine TOps.any ?_); (fail_if_success refine TOps.known (by rfl) ?_); refine TOps.ask (by rfl) (fun h => ?_) (fun h => ?_)) | ((with_reducible refine TDr.any ?_); (fail_if_success refine TDr.known (by first | rfl | assumption) ?_); refine TDr.ask (by rfl) (fun h hk => ?_) (fun h => ?_)) | ((with_reducible refine Tw.any ?_); refine Tw.cond (by rfl) (fun h => ?_) (fun h => ?_))) <;> (try simp only [goS] at h) <;> (try simp only [rdi, rdy, rd2i, rd3i, Int.toNat_natCast, Nat.add_zero] at h))
          | ((with_reducible refine tret.any ?_); first | refine tret.ok (by rfl) ?_ | refine tret.okN (by rfl) ?_)
          | ((with_reducible refine Due.mk ?_); (first | with_reducible rfl | omega | assumption | decide | ((try simp only [goS] at *) <;> (try intro h) <;> (try intro h') <;> (try simp only [goS] at *) <;> (try simp only [rdi, rdy, rd2i, rd3i, Int.toNat_natCast, Nat.add_zero] at *) <;> (try simp only [rng]) <;> (first | assumption | omega)) | (exact due_app0 (by omega)) | (exact due_app (by omega)) | (intros; simp; done) | (intros; simp; omega)))
          | with_reducible refine Due.mk ?_
          | omega)
      · repeat' (first
          | with_reducible first | refine Tw.seq ?_ | refine Tw.reg ?_ | refine Tw.block ?_ | refine Tw.scope ?_ | refine Tw.skip ?_ | refine Tw.exit ?_ | refine Tw.ret ?_ | refine seqN ?_ | refine seqR ?_ | refine seqE ?_ | refine rndN ?_ | refine blkN ?_ | refine blkR ?_ | refine blkE1 ?_ | refine blkE0 (by kernel_rfl) ?_ | refine scpN ?_ | refine scpR ?_ | refine scpE ?_ | refine TOps.nil ?_ | exact Conj.nil | refine Conj.cons rfl ?_ | refine Conj.same ?_ | refine Conj.ask ?_ ?_ | refine Tw.regd env ?_ | refine TDr.nil ⟨by kernel_rfl, ?_⟩
          | ((with_reducible refine TOps.any ?_); first | refine TOps.frunP env (by rfl) (by rfl) ?_ ?_ | (refine TOps.known (by rfl) ?_; refine TOps.strip env (by rfl) (by rfl) ?_ ?_) | refine TOps.on (by rfl) (by rfl) ?_)
          | ((with_reducible refine TDr.any ?_); refine TDr.frunP env (by rfl) (by rfl) ?_ ?_)
          | ((with_reducible refine Tw.any ?_); first | refine Tw.condT (by rfl) ?_ | refine Tw.condF (by rfl) ?_)
          | ((first | ((with_reducible refine TOps.any ?_); (fail_if_success refine TOps.known (by rfl) ?_); refine TOps.ask (by rfl) (fun h => ?_) (fun h => ?_)) | ((with_reducible refine TDr.any ?_); (fail_if_success refine TDr.known (by first | rfl | assumption) ?_); refine TDr.ask (by rfl) (fun h hk => ?_) (fun h => ?_)) | ((with_reducible refine Tw.any ?_); refine Tw.cond (by rfl) (fun h => ?_) (fun h => ?_))) <;> (try simp only [goS] at h) <;> (try simp only [rdi, rdy, rd2i, rd3i, Int.toNat_natCast, Nat.add_zero] at h))
          | ((with_reducible refine tret.any ?_); first | refine tret.ok (by rfl) ?_ | refine tret.okN (by rfl) ?_)
          | ((with_reducible refine Due.mk ?_); (first | with_reducible rfl | omega | assumption | decide | ((try simp only [goS] at *) <;> (try intro h) <;> (try intro h') <;> (try simp only [goS] at *) <;> (try simp only [rdi, rdy, rd2i, rd3i, Int.toNat_natCast, Nat.add_zero] at *) <;> (try simp only [rng]) <;> (first | assumption | omega)) | (exact due_app0 (by omega)) | (exact due_app (by omega)) | (intros; simp; done) | (intros; simp; omega)))
          | with_reducible refine Due.mk ?_
          | omega)
      refine TOps.frz env 3 (by rfl) (by rfl) (by rfl) ?_ ?_ ?_
      · repeat' (first
          | with_reducible first | refine Tw.seq ?_ | refine Tw.reg ?_ | refine Tw.block ?_ | refine Tw.scope ?_ | refine Tw.skip ?_ | refine Tw.exit ?_ | refine Tw.ret ?_ | refine seqN ?_ | refine seqR ?_ | refine seqE ?_ | refine rndN ?_ | refine blkN ?_ | refine blkR ?_ | refine blkE1 ?_ | refine blkE0 (by kernel_rfl) ?_ | refine scpN ?_ | refine scpR ?_ | refine scpE ?_ | refine TOps.nil ?_ | exact Conj.nil | refine Conj.cons rfl ?_ | refine Conj.same ?_ | refine Conj.ask ?_ ?_ | refine Tw.regd env ?_ | refine TDr.nil ⟨by kernel_rfl, ?_⟩
          | ((with_reducible refine TOps.any ?_); first | refine TOps.frunP env (by rfl) (by rfl) ?_ ?_ | (refine TOps.known (by rfl) ?_; refine TOps.strip env (by rfl) (by rfl) ?_ ?_) | refine TOps.on (by rfl) (by rfl) ?_)
          | ((with_reducible refine TDr.any ?_); refine TDr.frunP env (by rfl) (by rfl) ?_ ?_)
          | ((with_reducible refine Tw.any ?_); first | refine Tw.condT (by rfl) ?_ | refine Tw.condF (by rfl) ?_)
          | ((first | ((with_reducible refine TOps.any ?_); (fail_if_success refine TOps.known (by rfl) ?_); refine TOps.ask (by rfl) (fun h => ?_) (fun h => ?_)) | ((with_reducible refine TDr.any ?_); (fail_if_success refine TDr.known (by first | rfl | assumption) ?_); refine TDr.ask (by rfl) (fun h hk => ?_) (fun h => ?_)) | ((with_reducible refine Tw.any ?_); refine Tw.cond (by rfl) (fun h => ?_) (fun h => ?_))) <;> (try simp only [goS] at h) <;> (try simp only [rdi, rdy, rd2i, rd3i, Int.toNat_natCast, Nat.add_zero] at h))
          | ((with_reducible refine tret.any ?_); first | refine tret.ok (by rfl) ?_ | refine tret.okN (by rfl) ?_)
          | ((with_reducible refine Due.mk ?_); (first | with_reducible rfl | omega | assumption | decide | ((try simp only [goS] at *) <;> (try intro h) <;> (try intro h') <;> (try simp only [goS] at *) <;> (try simp only [rdi, rdy, rd2i, rd3i, Int.toNat_natCast, Nat.add_zero] at *) <;> (try simp only [rng]) <;> (first | assumption | omega)) | (exact due_app0 (by omega)) | (exact due_app (by omega)) | (intros; simp; done) | (intros; simp; omega)))
          | with_reducible refine Due.mk ?_
          | omega)
      · repeat' (first
          | with_reducible first | refine Tw.seq ?_ | refine Tw.reg ?_ | refine Tw.block ?_ | refine Tw.scope ?_ | refine Tw.skip ?_ | refine Tw.exit ?_ | refine Tw.ret ?_ | refine seqN ?_ | refine seqR ?_ | refine seqE ?_ | refine rndN ?_ | refine blkN ?_ | refine blkR ?_ | refine blkE1 ?_ | refine blkE0 (by kernel_rfl) ?_ | refine scpN ?_ | refine scpR ?_ | refine scpE ?_ | refine TOps.nil ?_ | exact Conj.nil | refine Conj.cons rfl ?_ | refine Conj.same ?_ | refine Conj.ask ?_ ?_ | refine Tw.regd env ?_ | refine TDr.nil ⟨by kernel_rfl, ?_⟩
          | ((with_reducible refine TOps.any ?_); first | refine TOps.frunP env (by rfl) (by rfl) ?_ ?_ | (refine TOps.known (by rfl) ?_; refine TOps.strip env (by rfl) (by rfl) ?_ ?_) | refine TOps.on (by rfl) (by rfl) ?_)
          | ((with_reducible refine TDr.any ?_); refine TDr.frunP env (by rfl) (by rfl) ?_ ?_)
          | ((with_reducible refine Tw.any ?_); first | refine Tw.condT (by rfl) ?_ | refine Tw.condF (by rfl) ?_)
          | ((first | ((with_reducible refine TOps.any ?_); (fail_if_success refine TOps.known (by rfl) ?_); refine TOps.ask (by rfl) (fun h => ?_) (fun h => ?_)) | ((with_reducible refine TDr.any ?_); (fail_if_success refine TDr.known (by first | rfl | assumption) ?_); refine TDr.ask (by rfl) (fun h hk => ?_) (fun h => ?_)) | ((with_reducible refine Tw.any ?_); refine Tw.cond (by rfl) (fun h => ?_) (fun h => ?_))) <;> (try simp only [goS] at h) <;> (try simp only [rdi, rdy, rd2i, rd3i, Int.toNat_natCast, Nat.add_zero] at h))
          | ((with_reducible refine tret.any ?_); first | refine tret.ok (by rfl) ?_ | refine tret.okN (by rfl) ?_)
          | ((with_reducible refine Due.mk ?_); (first | with_reducible rfl | omega | assumption | decide | ((try simp only [goS] at *) <;> (try intro h) <;> (try intro h') <;> (try simp only [goS] at *) <;> (try simp only [rdi, rdy, rd2i, rd3i, Int.toNat_natCast, Nat.add_zero] at *) <;> (try simp only [rng]) <;> (first | assumption | omega)) | (exact due_app0 (by omega)) | (exact due_app (by omega)) | (intros; simp; done) | (intros; simp; omega)))
          | with_reducible refine Due.mk ?_
          | omega)
      rw [cut_all hll2.symm, cut_all ht.symm, Int.toNat_natCast, show cut (List.replicate i (0 : Int)) 0 i = List.replicate i 0 from cut_all (by simp)]
      obtain ⟨PX, hPX⟩ : ∃ PX, PX = (tab ((2 * a + 13) * (2 * a + 13)) fun j => setG (2 * a + 13) (fun t x y => px (2 * a + 13) (2 * a + 13) (midB a) ((x : Int) - (offP ss t).1) ((y : Int) - (offP ss t).2)) j l.length) := ⟨_, rfl⟩
      rw [← hPX] at pc
      have lPX : PX.length = (2 * a + 13) * (2 * a + 13) := by rw [hPX]; exact tab_len
      have bPX : ∀ j, j < PX.length → 0 ≤ PX.getD j 0 ∧ PX.getD j 0 ≤ 255 := fun j hj => by
        rw [hPX, tab_get (by omega)]
        have hb := setG_bd (2 * a + 13) (fun t x y => px (2 * a + 13) (2 * a + 13) (midB a) ((x : Int) - (offP ss t).1) ((y : Int) - (offP ss t).2)) j l.length
        have h2 : (2 : Nat) ^ l.length ≤ 2 ^ 8 := Nat.pow_le_pow_right (by omega) (by omega)
        have h3 : ((2 ^ l.length : Nat) : Int) = (2 : Int) ^ l.length := by simp
        omega
      repeat' (first
        | ((with_reducible refine TOps.any ?_); refine TOps.callV env (by rfl) (by rfl) (by rfl) (pc) ?_)
        | with_reducible first | refine Tw.seq ?_ | refine Tw.reg ?_ | refine Tw.block ?_ | refine Tw.scope ?_ | refine Tw.skip ?_ | refine Tw.exit ?_ | refine Tw.ret ?_ | refine seqN ?_ | refine seqR ?_ | refine seqE ?_ | refine rndN ?_ | refine blkN ?_ | refine blkR ?_ | refine blkE1 ?_ | refine blkE0 (by kernel_rfl) ?_ | refine scpN ?_ | refine scpR ?_ | refine scpE ?_ | refine TOps.nil ?_ | exact Conj.nil | refine Conj.cons rfl ?_ | refine Conj.same ?_ | refine Conj.ask ?_ ?_ | refine Tw.regd env ?_ | refine TDr.nil ⟨by kernel_rfl, ?_⟩
        | ((with_reducible refine TOps.any ?_); first | refine TOps.frunP env (by rfl) (by rfl) ?_ ?_ | (refine TOps.known (by rfl) ?_; refine TOps.strip env (by rfl) (by rfl) ?_ ?_) | refine TOps.on (by rfl) (by rfl) ?_)
        | ((with_reducible refine TDr.any ?_); refine TDr.frunP env (by rfl) (by rfl) ?_ ?_)
        | ((with_reducible refine Tw.any ?_); first | refine Tw.condT (by rfl) ?_ | refine Tw.condF (by rfl) ?_)
        | ((first | ((with_reducible refine TOps.any ?_); (fail_if_success refine TOps.known (by rfl) ?_); refine TOps.ask (by rfl) (fun h => ?_) (fun h => ?_)) | ((with_reducible refine TDr.any ?_); (fail_if_success refine TDr.known (by first | rfl | assumption) ?_); refine TDr.ask (by rfl) (fun h hk => ?_) (fun h => ?_)) | ((with_reducible refine Tw.any ?_); refine Tw.cond (by rfl) (fun h => ?_) (fun h => ?_))) <;> (try simp only [goS] at h) <;> (try simp only [rdi, rdy, rd2i, rd3i, Int.toNat_natCast, Nat.add_zero] at h) <;> (try (exfalso; (try simp only [goP, reduceCtorEq] at h) <;> (first | assumption | omega | contradiction | (rcases h with ⟨_, _⟩ <;> first | contradiction | omega) | (rcases h with h | h <;> first | contradiction | omega)))))
        | ((with_reducible refine tret.any ?_); first | refine tret.ok (by rfl) ?_ | refine tret.okN (by rfl) ?_)
        | ((with_reducible refine Due.mk ?_); (first | with_reducible rfl | omega | assumption | decide | ((try simp only [goS] at *) <;> (try intro h) <;> (try intro h') <;> (try simp only [goS] at *) <;> (try simp only [rdi, rdy, rd2i, rd3i, Int.toNat_natCast, Nat.add_zero] at *) <;> (try simp only [rng]) <;> (first | assumption | omega)) | (exact due_app0 (by omega)) | (exact due_app (by omega)) | (intros; simp; done) | (intros; simp; omega)))
        | with_reducible refine Due.mk ?_
        | omega)
      refine Tw.frz env 4 (by rfl) (by rfl) (by rfl) ?_ ?_ ?_
      · repeat' (first
          | with_reducible first | refine Tw.seq ?_ | refine Tw.reg ?_ | refine Tw.block ?_ | refine Tw.scope ?_ | refine Tw.skip ?_ | refine Tw.exit ?_ | refine Tw.ret ?_ | refine seqN ?_ | refine seqR ?_ | refine seqE ?_ | refine rndN ?_ | refine blkN ?_ | refine blkR ?_ | refine blkE1 ?_ | refine blkE0 (by kernel_rfl) ?_ | refine scpN ?_ | refine scpR ?_ | refine scpE ?_ | refine TOps.nil ?_ | exact Conj.nil | refine Conj.cons rfl ?_ | refine Conj.same ?_ | refine Conj.ask ?_ ?_ | refine Tw.regd env ?_ | refine TDr.nil ⟨by kernel_rfl, ?_⟩
          | ((with_reducible refine TOps.any ?_); first | refine TOps.frunP env (by rfl) (by rfl) ?_ ?_ | (refine TOps.known (by rfl) ?_; refine TOps.strip env (by rfl) (by rfl) ?_ ?_) | refine TOps.on (by rfl) (by rfl) ?_)
          | ((with_reducible refine TDr.any ?_); refine TDr.frunP env (by rfl) (by rfl) ?_ ?_)
          | ((with_reducible refine Tw.any ?_); first | refine Tw.condT (by rfl) ?_ | refine Tw.condF (by rfl) ?_)
          | ((first | ((with_reducible refine TOps.any ?_); (fail_if_success refine TOps.known (by rfl) ?_); refine TOps.ask (by rfl) (fun h => ?_) (fun h => ?_)) | ((with_reducible refine TDr.any ?_); (fail_if_success refine TDr.known (by first | rfl | assumption) ?_); refine TDr.ask (by rfl) (fun h hk => ?_) (fun h => ?_)) | ((with_reducible refine Tw.any ?_); refine Tw.cond (by rfl) (fun h => ?_) (fun h => ?_))) <;> (try simp only [goS] at h) <;> (try simp only [rdi, rdy, rd2i, rd3i, lPX, Int.toNat_natCast, Nat.add_zero] at h))
          | ((with_reducible refine tret.any ?_); first | refine tret.ok (by rfl) ?_ | refine tret.okN (by rfl) ?_)
          | ((with_reducible refine Due.mk ?_); (first | with_reducible rfl | omega | assumption | decide | ((try simp only [goS] at *) <;> (try intro h) <;> (try intro h') <;> (try simp only [goS] at *) <;> (try simp only [rdi, rdy, rd2i, rd3i, lPX, Int.toNat_natCast, Nat.add_zero] at *) <;> (try simp only [rng]) <;> (first | assumption | omega)) | (exact due_app0 (by omega)) | (exact due_app (by omega)) | (intros; simp; done) | (intros; simp; omega)))
          | with_reducible refine Due.mk ?_
          | omega)
      · repeat' (first
          | with_reducible first | refine Tw.seq ?_ | refine Tw.reg ?_ | refine Tw.block ?_ | refine Tw.scope ?_ | refine Tw.skip ?_ | refine Tw.exit ?_ | refine Tw.ret ?_ | refine seqN ?_ | refine seqR ?_ | refine seqE ?_ | refine rndN ?_ | refine blkN ?_ | refine blkR ?_ | refine blkE1 ?_ | refine blkE0 (by kernel_rfl) ?_ | refine scpN ?_ | refine scpR ?_ | refine scpE ?_ | refine TOps.nil ?_ | exact Conj.nil | refine Conj.cons rfl ?_ | refine Conj.same ?_ | refine Conj.ask ?_ ?_ | refine Tw.regd env ?_ | refine TDr.nil ⟨by kernel_rfl, ?_⟩
          | ((with_reducible refine TOps.any ?_); first | refine TOps.frunP env (by rfl) (by rfl) ?_ ?_ | (refine TOps.known (by rfl) ?_; refine TOps.strip env (by rfl) (by rfl) ?_ ?_) | refine TOps.on (by rfl) (by rfl) ?_)
          | ((with_reducible refine TDr.any ?_); refine TDr.frunP env (by rfl) (by rfl) ?_ ?_)
          | ((with_reducible refine Tw.any ?_); first | refine Tw.condT (by rfl) ?_ | refine Tw.condF (by rfl) ?_)
          | ((first | ((with_reducible refine TOps.any ?_); (fail_if_success refine TOps.known (by rfl) ?_); refine TOps.ask (by rfl) (fun h => ?_) (fun h => ?_)) | ((with_reducible refine TDr.any ?_); (fail_if_success refine TDr.known (by first | rfl | assumption) ?_); refine TDr.ask (by rfl) (fun h hk => ?_) (fun h => ?_)) | ((with_reducible refine Tw.any ?_); refine Tw.cond (by rfl) (fun h => ?_) (fun h => ?_))) <;> (try simp only [goS] at h) <;> (try simp only [rdi, rdy, rd2i, rd3i, lPX, Int.toNat_natCast, Nat.add_zero] at h))
          | ((with_reducible refine tret.any ?_); first | refine tret.ok (by rfl) ?_ | refine tret.okN (by rfl) ?_)
          | ((with_reducible refine Due.mk ?_); (first | with_reducible rfl | omega | assumption | decide | ((try simp only [goS] at *) <;> (try intro h) <;> (try intro h') <;> (try simp only [goS] at *) <;> (try simp only [rdi, rdy, rd2i, rd3i, lPX, Int.toNat_natCast, Nat.add_zero] at *) <;> (try simp only [rng]) <;> (first | assumption | omega)) | (exact due_app0 (by omega)) | (exact due_app (by omega)) | (intros; simp; done) | (intros; simp; omega)))
          | with_reducible refine Due.mk ?_
          | omega)
      rw [cut_all lPX.symm]
      refine Tw.loopK [0, 1, 5, 7, 9, 13, 4, 16, 20] (fun t : Nat => t ≤ i) (fun t => i - t) (fun t => [(134, .int .i64 t), (133, .int .i64 i), (19, .ptr 0 0), (15, .sla 3 1 0 t)])
        (fun t => [some (.cells [.int .i64 ((2 * a + 13 : Nat) : Int), .int .i64 ((2 * a + 13 : Nat) : Int), .lst Ey PX]), some (.arr E2iLyJ (tab t fun t => (((2 * a + 13 : Nat) : Int), ((2 * a + 13 : Nat) : Int), fD a ss t)))]) ⟨0, by omega, TWk.fcanon env [some 5, none] (by rfl) ?_⟩ (fun t ht2 => ?_)
      · repeat' (first
          | with_reducible first | refine Tw.seq ?_ | refine Tw.reg ?_ | refine Tw.block ?_ | refine Tw.scope ?_ | refine Tw.skip ?_ | refine Tw.exit ?_ | refine Tw.ret ?_ | refine seqN ?_ | refine seqR ?_ | refine seqE ?_ | refine rndN ?_ | refine blkN ?_ | refine blkR ?_ | refine blkE1 ?_ | refine blkE0 (by kernel_rfl) ?_ | refine scpN ?_ | refine scpR ?_ | refine scpE ?_ | refine TOps.nil ?_ | exact Conj.nil | refine Conj.cons rfl ?_ | refine Conj.same ?_ | refine Conj.ask ?_ ?_ | refine Tw.regd env ?_ | refine TDr.nil ⟨by kernel_rfl, ?_⟩
          | ((with_reducible refine TOps.any ?_); first | refine TOps.frunP env (by rfl) (by rfl) ?_ ?_ | (refine TOps.known (by rfl) ?_; refine TOps.strip env (by rfl) (by rfl) ?_ ?_) | refine TOps.on (by rfl) (by rfl) ?_)
          | ((with_reducible refine TDr.any ?_); refine TDr.frunP env (by rfl) (by rfl) ?_ ?_)
          | ((with_reducible refine Tw.any ?_); first | refine Tw.condT (by rfl) ?_ | refine Tw.condF (by rfl) ?_)
          | ((first | ((with_reducible refine TOps.any ?_); (fail_if_success refine TOps.known (by rfl) ?_); refine TOps.ask (by rfl) (fun h => ?_) (fun h => ?_)) | ((with_reducible refine TDr.any ?_); (fail_if_success refine TDr.known (by first | rfl | assumption) ?_); refine TDr.ask (by rfl) (fun h hk => ?_) (fun h => ?_)) | ((with_reducible refine Tw.any ?_); refine Tw.cond (by rfl) (fun h => ?_) (fun h => ?_))) <;> (try simp only [goS] at h) <;> (try simp only [rdi, rdy, rd2i, rd3i, Int.toNat_natCast, Nat.add_zero] at h))
          | ((with_reducible refine tret.any ?_); first | refine tret.ok (by rfl) ?_ | refine tret.okN (by rfl) ?_)
          | ((with_reducible refine Due.mk ?_); (first | with_reducible rfl | omega | assumption | decide | ((try simp only [goS] at *) <;> (try intro h) <;> (try intro h') <;> (try simp only [goS] at *) <;> (try simp only [rdi, rdy, rd2i, rd3i, Int.toNat_natCast, Nat.add_zero] at *) <;> (try simp only [rng]) <;> (first | assumption | omega)) | (exact due_app0 (by omega)) | (exact due_app (by omega)) | (intros; simp; done) | (intros; simp; omega)))
          | with_reducible refine Due.mk ?_
          | omega)
      rcases Nat.lt_or_ge t i with ht2 | ht2
      · have htl : (tab t fun t => ((((2 * a + 13 : Nat) : Int), ((2 * a + 13 : Nat) : Int), fD a ss t) : Bt)).length = t := tab_len
        have ic := ink_y (2 * a + 13) (2 * a + 13) PX t (by omega) (by omega) lPX bPX (by omega)
        have eD : bm (2 * a + 13) (2 * a + 13) (fun x y => bitI (PX.getD (y * (2 * a + 13) + x) 0) t) = fD a ss t := bm_congr fun x y hx hy => by
          rw [hPX, tab_get (at_lt hx hy), setG_bit _ _ _ _ _ (by omega), (mod_at hx).1, (mod_at hx).2]
        rw [eD] at ic
        repeat' (first
          | ((with_reducible refine TOps.any ?_); refine TOps.callV env (by rfl) (by rfl) (by rfl) (ic) ?_)
          | with_reducible first | refine Tw.seq ?_ | refine Tw.reg ?_ | refine Tw.block ?_ | refine Tw.scope ?_ | refine Tw.skip ?_ | refine Tw.exit ?_ | refine Tw.ret ?_ | refine seqN ?_ | refine seqR ?_ | refine seqE ?_ | refine rndN ?_ | refine blkN ?_ | refine blkR ?_ | refine blkE1 ?_ | refine blkE0 (by kernel_rfl) ?_ | refine scpN ?_ | refine scpR ?_ | refine scpE ?_ | refine TOps.nil ?_ | exact Conj.nil | refine Conj.cons rfl ?_ | refine Conj.same ?_ | refine Conj.ask ?_ ?_ | refine Tw.regd env ?_ | refine TDr.nil ⟨by kernel_rfl, ?_⟩
          | ((with_reducible refine TOps.any ?_); first | refine TOps.frunP env (by rfl) (by rfl) ?_ ?_ | (refine TOps.known (by rfl) ?_; refine TOps.strip env (by rfl) (by rfl) ?_ ?_) | refine TOps.on (by rfl) (by rfl) ?_)
          | ((with_reducible refine TDr.any ?_); refine TDr.frunP env (by rfl) (by rfl) ?_ ?_)
          | ((with_reducible refine Tw.any ?_); first | refine Tw.condT (by rfl) ?_ | refine Tw.condF (by rfl) ?_)
          | ((first | ((with_reducible refine TOps.any ?_); (fail_if_success refine TOps.known (by rfl) ?_); refine TOps.ask (by rfl) (fun h => ?_) (fun h => ?_)) | ((with_reducible refine TDr.any ?_); (fail_if_success refine TDr.known (by first | rfl | assumption) ?_); refine TDr.ask (by rfl) (fun h hk => ?_) (fun h => ?_)) | ((with_reducible refine Tw.any ?_); refine Tw.cond (by rfl) (fun h => ?_) (fun h => ?_))) <;> (try simp only [goS] at h) <;> (try simp only [rdi, rdy, rd2i, rd3i, Int.toNat_natCast, Nat.add_zero] at h) <;> (try (exfalso; (try simp only [goP, reduceCtorEq] at h) <;> (first | assumption | omega | contradiction | (rcases h with ⟨_, _⟩ <;> first | contradiction | omega) | (rcases h with h | h <;> first | contradiction | omega)))))
          | ((with_reducible refine tret.any ?_); first | refine tret.ok (by rfl) ?_ | refine tret.okN (by rfl) ?_)
          | ((with_reducible refine Due.mk ?_); (first | with_reducible rfl | omega | assumption | decide | ((try simp only [goS] at *) <;> (try intro h) <;> (try intro h') <;> (try simp only [goS] at *) <;> (try simp only [rdi, rdy, rd2i, rd3i, Int.toNat_natCast, Nat.add_zero] at *) <;> (try simp only [rng]) <;> (first | assumption | omega)) | (exact due_app0 (by omega)) | (exact due_app (by omega)) | (intros; simp; done) | (intros; simp; omega)))
          | with_reducible refine Due.mk ?_
          | omega)
        have e1 : (tab (t + 1) fun t => ((((2 * a + 13 : Nat) : Int), ((2 * a + 13 : Nat) : Int), fD a ss t) : Bt)) = cut (tab t fun t => ((((2 * a + 13 : Nat) : Int), ((2 * a + 13 : Nat) : Int), fD a ss t) : Bt)) 0 t ++ cut [((((2 * a + 13 : Nat) : Int), ((2 * a + 13 : Nat) : Int), fD a ss t) : Bt)] 0 1 := by rw [tab_succ, cut_all htl.symm]; rfl
        have e3 : t + 1 = t + (cut [((((2 * a + 13 : Nat) : Int), ((2 * a + 13 : Nat) : Int), fD a ss t) : Bt)] 0 1).length := rfl
        refine ⟨t + 1, by omega, by omega, TWk.fcanon env [some 0, some 4] (by rfl) ?_⟩
        repeat' (first
          | exact e1
          | exact e3
          | with_reducible first | refine Tw.seq ?_ | refine Tw.reg ?_ | refine Tw.block ?_ | refine Tw.scope ?_ | refine Tw.skip ?_ | refine Tw.exit ?_ | refine Tw.ret ?_ | refine seqN ?_ | refine seqR ?_ | refine seqE ?_ | refine rndN ?_ | refine blkN ?_ | refine blkR ?_ | refine blkE1 ?_ | refine blkE0 (by kernel_rfl) ?_ | refine scpN ?_ | refine scpR ?_ | refine scpE ?_ | refine TOps.nil ?_ | exact Conj.nil | refine Conj.cons rfl ?_ | refine Conj.same ?_ | refine Conj.ask ?_ ?_ | refine Tw.regd env ?_ | refine TDr.nil ⟨by kernel_rfl, ?_⟩
          | ((with_reducible refine TOps.any ?_); first | refine TOps.frunP env (by rfl) (by rfl) ?_ ?_ | (refine TOps.known (by rfl) ?_; refine TOps.strip env (by rfl) (by rfl) ?_ ?_) | refine TOps.on (by rfl) (by rfl) ?_)
          | ((with_reducible refine TDr.any ?_); refine TDr.frunP env (by rfl) (by rfl) ?_ ?_)
          | ((with_reducible refine Tw.any ?_); first | refine Tw.condT (by rfl) ?_ | refine Tw.condF (by rfl) ?_)
          | ((first | ((with_reducible refine TOps.any ?_); (fail_if_success refine TOps.known (by rfl) ?_); refine TOps.ask (by rfl) (fun h => ?_) (fun h => ?_)) | ((with_reducible refine TDr.any ?_); (fail_if_success refine TDr.known (by first | rfl | assumption) ?_); refine TDr.ask (by rfl) (fun h hk => ?_) (fun h => ?_)) | ((with_reducible refine Tw.any ?_); refine Tw.cond (by rfl) (fun h => ?_) (fun h => ?_))) <;> (try simp only [goS] at h) <;> (try simp only [rdi, rdy, rd2i, rd3i, Int.toNat_natCast, Nat.add_zero] at h))
          | ((with_reducible refine tret.any ?_); first | refine tret.ok (by rfl) ?_ | refine tret.okN (by rfl) ?_)
          | ((with_reducible refine Due.mk ?_); (first | with_reducible rfl | omega | assumption | decide | ((try simp only [goS] at *) <;> (try intro h) <;> (try intro h') <;> (try simp only [goS] at *) <;> (try simp only [rdi, rdy, rd2i, rd3i, Int.toNat_natCast, Nat.add_zero] at *) <;> (try simp only [rng]) <;> (first | assumption | omega)) | (exact due_app0 (by omega)) | (exact due_app (by omega)) | (intros; simp; done) | (intros; simp; omega)))
          | with_reducible refine Due.mk ?_
          | omega)
      · obtain rfl : t = i := by omega
        obtain ⟨LL, hLL⟩ : ∃ LL, LL = (tab t fun t => ((((2 * a + 13 : Nat) : Int), ((2 * a + 13 : Nat) : Int), fD a ss t) : Bt)) := ⟨_, rfl⟩
        have lLL : LL.length = t := by rw [hLL]; exact tab_len
        have gLL : ∀ k, k < LL.length → LL.getD k (R.d E2iLyJ) = (((2 * a + 13 : Nat) : Int), ((2 * a + 13 : Nat) : Int), fD a ss k) := fun k hk => by rw [hLL]; exact tab_get (by omega)
        have rg := register_y LL a ((a : Int) + 6) ((a : Int) + 6) (fun k => (a : Int) + 6 + (offP ss k).1) (fun k => (a : Int) + 6 + (offP ss k).2) (by unfold Due; omega) (by unfold Due; omega) (by
          unfold Due; intro k hk; have := offP_bd (ss := ss) (k := k); omega) (fun k hk => by
          rw [gLL k hk]
          have := offP_bd (ss := ss) (k := k)
          exact (found_loc ha (by omega) (by omega) rfl).2)
        have eR : (tab LL.length fun k => ((a : Int) + 6 + (offP ss k).1 - ((a : Int) + 6), (a : Int) + 6 + (offP ss k).2 - ((a : Int) + 6))) = tab t (offP ss) := by
          rw [lLL]
          exact ext_getD (0, 0) (by simp [tab_len]) fun k hk => by
            rw [tab_len] at hk
            rw [tab_get hk, tab_get hk]
            have := offP_bd (ss := ss) (k := k)
            exact Prod.ext (by simp only; omega) (by simp only; omega)
        rw [eR] at rg
        rw [← hLL]
        repeat' (first
          | with_reducible first | refine Tw.seq ?_ | refine Tw.reg ?_ | refine Tw.block ?_ | refine Tw.scope ?_ | refine Tw.skip ?_ | refine Tw.exit ?_ | refine Tw.ret ?_ | refine seqN ?_ | refine seqR ?_ | refine seqE ?_ | refine rndN ?_ | refine blkN ?_ | refine blkR ?_ | refine blkE1 ?_ | refine blkE0 (by kernel_rfl) ?_ | refine scpN ?_ | refine scpR ?_ | refine scpE ?_ | refine TOps.nil ?_ | exact Conj.nil | refine Conj.cons rfl ?_ | refine Conj.same ?_ | refine Conj.ask ?_ ?_ | refine Tw.regd env ?_ | refine TDr.nil ⟨by kernel_rfl, ?_⟩
          | ((with_reducible refine TOps.any ?_); first | refine TOps.frunP env (by rfl) (by rfl) ?_ ?_ | (refine TOps.known (by rfl) ?_; refine TOps.strip env (by rfl) (by rfl) ?_ ?_) | refine TOps.on (by rfl) (by rfl) ?_)
          | ((with_reducible refine TDr.any ?_); refine TDr.frunP env (by rfl) (by rfl) ?_ ?_)
          | ((with_reducible refine Tw.any ?_); first | refine Tw.condT (by rfl) ?_ | refine Tw.condF (by rfl) ?_)
          | ((first | ((with_reducible refine TOps.any ?_); (fail_if_success refine TOps.known (by rfl) ?_); refine TOps.ask (by rfl) (fun h => ?_) (fun h => ?_)) | ((with_reducible refine TDr.any ?_); (fail_if_success refine TDr.known (by first | rfl | assumption) ?_); refine TDr.ask (by rfl) (fun h hk => ?_) (fun h => ?_)) | ((with_reducible refine Tw.any ?_); refine Tw.cond (by rfl) (fun h => ?_) (fun h => ?_))) <;> (try simp only [goS] at h) <;> (try simp only [rdi, rdy, rd2i, rd3i, Int.toNat_natCast, Nat.add_zero] at h) <;> (try (exfalso; (try simp only [goP, reduceCtorEq] at h) <;> (first | assumption | omega | contradiction | (rcases h with ⟨_, _⟩ <;> first | contradiction | omega) | (rcases h with h | h <;> first | contradiction | omega)))))
          | ((with_reducible refine tret.any ?_); first | refine tret.ok (by rfl) ?_ | refine tret.okN (by rfl) ?_)
          | ((with_reducible refine Due.mk ?_); (first | with_reducible rfl | omega | assumption | decide | ((try simp only [goS] at *) <;> (try intro h) <;> (try intro h') <;> (try simp only [goS] at *) <;> (try simp only [rdi, rdy, rd2i, rd3i, Int.toNat_natCast, Nat.add_zero] at *) <;> (try simp only [rng]) <;> (first | assumption | omega)) | (exact due_app0 (by omega)) | (exact due_app (by omega)) | (intros; simp; done) | (intros; simp; omega)))
          | with_reducible refine Due.mk ?_
          | omega)
        refine TOps.frz env 1 (by rfl) (by rfl) (by rfl) ?_ ?_ ?_
        · repeat' (first
            | with_reducible first | refine Tw.seq ?_ | refine Tw.reg ?_ | refine Tw.block ?_ | refine Tw.scope ?_ | refine Tw.skip ?_ | refine Tw.exit ?_ | refine Tw.ret ?_ | refine seqN ?_ | refine seqR ?_ | refine seqE ?_ | refine rndN ?_ | refine blkN ?_ | refine blkR ?_ | refine blkE1 ?_ | refine blkE0 (by kernel_rfl) ?_ | refine scpN ?_ | refine scpR ?_ | refine scpE ?_ | refine TOps.nil ?_ | exact Conj.nil | refine Conj.cons rfl ?_ | refine Conj.same ?_ | refine Conj.ask ?_ ?_ | refine Tw.regd env ?_ | refine TDr.nil ⟨by kernel_rfl, ?_⟩
            | ((with_reducible refine TOps.any ?_); first | refine TOps.frunP env (by rfl) (by rfl) ?_ ?_ | (refine TOps.known (by rfl) ?_; refine TOps.strip env (by rfl) (by rfl) ?_ ?_) | refine TOps.on (by rfl) (by rfl) ?_)
            | ((with_reducible refine TDr.any ?_); refine TDr.frunP env (by rfl) (by rfl) ?_ ?_)
            | ((with_reducible refine Tw.any ?_); first | refine Tw.condT (by rfl) ?_ | refine Tw.condF (by rfl) ?_)
            | ((first | ((with_reducible refine TOps.any ?_); (fail_if_success refine TOps.known (by rfl) ?_); refine TOps.ask (by rfl) (fun h => ?_) (fun h => ?_)) | ((with_reducible refine TDr.any ?_); (fail_if_success refine TDr.known (by first | rfl | assumption) ?_); refine TDr.ask (by rfl) (fun h hk => ?_) (fun h => ?_)) | ((with_reducible refine Tw.any ?_); refine Tw.cond (by rfl) (fun h => ?_) (fun h => ?_))) <;> (try simp only [goS] at h) <;> (try simp only [rdi, rdy, rd2i, rd3i, lLL, Int.toNat_natCast, Nat.add_zero] at h))
            | ((with_reducible refine tret.any ?_); first | refine tret.ok (by rfl) ?_ | refine tret.okN (by rfl) ?_)
            | ((with_reducible refine Due.mk ?_); (first | with_reducible rfl | omega | assumption | decide | ((try simp only [goS] at *) <;> (try intro h) <;> (try intro h') <;> (try simp only [goS] at *) <;> (try simp only [rdi, rdy, rd2i, rd3i, lLL, Int.toNat_natCast, Nat.add_zero] at *) <;> (try simp only [rng]) <;> (first | assumption | omega)) | (exact due_app0 (by omega)) | (exact due_app (by omega)) | (intros; simp; done) | (intros; simp; omega)))
            | with_reducible refine Due.mk ?_
            | omega)
        · repeat' (first
            | with_reducible first | refine Tw.seq ?_ | refine Tw.reg ?_ | refine Tw.block ?_ | refine Tw.scope ?_ | refine Tw.skip ?_ | refine Tw.exit ?_ | refine Tw.ret ?_ | refine seqN ?_ | refine seqR ?_ | refine seqE ?_ | refine rndN ?_ | refine blkN ?_ | refine blkR ?_ | refine blkE1 ?_ | refine blkE0 (by kernel_rfl) ?_ | refine scpN ?_ | refine scpR ?_ | refine scpE ?_ | refine TOps.nil ?_ | exact Conj.nil | refine Conj.cons rfl ?_ | refine Conj.same ?_ | refine Conj.ask ?_ ?_ | refine Tw.regd env ?_ | refine TDr.nil ⟨by kernel_rfl, ?_⟩
            | ((with_reducible refine TOps.any ?_); first | refine TOps.frunP env (by rfl) (by rfl) ?_ ?_ | (refine TOps.known (by rfl) ?_; refine TOps.strip env (by rfl) (by rfl) ?_ ?_) | refine TOps.on (by rfl) (by rfl) ?_)
            | ((with_reducible refine TDr.any ?_); refine TDr.frunP env (by rfl) (by rfl) ?_ ?_)
            | ((with_reducible refine Tw.any ?_); first | refine Tw.condT (by rfl) ?_ | refine Tw.condF (by rfl) ?_)
            | ((first | ((with_reducible refine TOps.any ?_); (fail_if_success refine TOps.known (by rfl) ?_); refine TOps.ask (by rfl) (fun h => ?_) (fun h => ?_)) | ((with_reducible refine TDr.any ?_); (fail_if_success refine TDr.known (by first | rfl | assumption) ?_); refine TDr.ask (by rfl) (fun h hk => ?_) (fun h => ?_)) | ((with_reducible refine Tw.any ?_); refine Tw.cond (by rfl) (fun h => ?_) (fun h => ?_))) <;> (try simp only [goS] at h) <;> (try simp only [rdi, rdy, rd2i, rd3i, lLL, Int.toNat_natCast, Nat.add_zero] at h))
            | ((with_reducible refine tret.any ?_); first | refine tret.ok (by rfl) ?_ | refine tret.okN (by rfl) ?_)
            | ((with_reducible refine Due.mk ?_); (first | with_reducible rfl | omega | assumption | decide | ((try simp only [goS] at *) <;> (try intro h) <;> (try intro h') <;> (try simp only [goS] at *) <;> (try simp only [rdi, rdy, rd2i, rd3i, lLL, Int.toNat_natCast, Nat.add_zero] at *) <;> (try simp only [rng]) <;> (first | assumption | omega)) | (exact due_app0 (by omega)) | (exact due_app (by omega)) | (intros; simp; done) | (intros; simp; omega)))
            | with_reducible refine Due.mk ?_
            | omega)
        rw [cut_all lLL.symm]
        repeat' (first
          | ((with_reducible refine TOps.any ?_); refine TOps.callV env (by rfl) (by rfl) (by rfl) (rg) ?_)
          | with_reducible first | refine Tw.seq ?_ | refine Tw.reg ?_ | refine Tw.block ?_ | refine Tw.scope ?_ | refine Tw.skip ?_ | refine Tw.exit ?_ | refine Tw.ret ?_ | refine seqN ?_ | refine seqR ?_ | refine seqE ?_ | refine rndN ?_ | refine blkN ?_ | refine blkR ?_ | refine blkE1 ?_ | refine blkE0 (by kernel_rfl) ?_ | refine scpN ?_ | refine scpR ?_ | refine scpE ?_ | refine TOps.nil ?_ | exact Conj.nil | refine Conj.cons rfl ?_ | refine Conj.same ?_ | refine Conj.ask ?_ ?_ | refine Tw.regd env ?_ | refine TDr.nil ⟨by kernel_rfl, ?_⟩
          | ((with_reducible refine TOps.any ?_); first | refine TOps.frunP env (by rfl) (by rfl) ?_ ?_ | (refine TOps.known (by rfl) ?_; refine TOps.strip env (by rfl) (by rfl) ?_ ?_) | refine TOps.on (by rfl) (by rfl) ?_)
          | ((with_reducible refine TDr.any ?_); refine TDr.frunP env (by rfl) (by rfl) ?_ ?_)
          | ((with_reducible refine Tw.any ?_); first | refine Tw.condT (by rfl) ?_ | refine Tw.condF (by rfl) ?_)
          | ((first | ((with_reducible refine TOps.any ?_); (fail_if_success refine TOps.known (by rfl) ?_); refine TOps.ask (by rfl) (fun h => ?_) (fun h => ?_)) | ((with_reducible refine TDr.any ?_); (fail_if_success refine TDr.known (by first | rfl | assumption) ?_); refine TDr.ask (by rfl) (fun h hk => ?_) (fun h => ?_)) | ((with_reducible refine Tw.any ?_); refine Tw.cond (by rfl) (fun h => ?_) (fun h => ?_))) <;> (try simp only [goS] at h) <;> (try simp only [rdi, rdy, rd2i, rd3i, Int.toNat_natCast, Nat.add_zero] at h) <;> (try (exfalso; (try simp only [goP, reduceCtorEq] at h) <;> (first | assumption | omega | contradiction | (rcases h with ⟨_, _⟩ <;> first | contradiction | omega) | (rcases h with h | h <;> first | contradiction | omega)))))
          | ((with_reducible refine tret.any ?_); first | refine tret.ok (by rfl) ?_ | refine tret.okN (by rfl) ?_)
          | ((with_reducible refine Due.mk ?_); (first | with_reducible rfl | omega | assumption | decide | ((try simp only [goS] at *) <;> (try intro h) <;> (try intro h') <;> (try simp only [goS] at *) <;> (try simp only [rdi, rdy, rd2i, rd3i, Int.toNat_natCast, Nat.add_zero] at *) <;> (try simp only [rng]) <;> (first | assumption | omega)) | (exact due_app0 (by omega)) | (exact due_app (by omega)) | (intros; simp; done) | (intros; simp; omega)))
          | with_reducible refine Due.mk ?_
          | omega)
        have htl2 : (tab t (offP ss)).length = t := tab_len
        refine Tw.loopK [4, 16, 24] (fun k : Nat => k ≤ t) (fun k => t - k) (fun k => [(186, .int .i64 k), (185, .int .i64 t)]) (fun _ => []) ⟨0, by omega, TWk.fcanon env [] (by rfl) ?_⟩ (fun k hk => ?_)
        · repeat' (first
            | with_reducible first | refine Tw.seq ?_ | refine Tw.reg ?_ | refine Tw.block ?_ | refine Tw.scope ?_ | refine Tw.skip ?_ | refine Tw.exit ?_ | refine Tw.ret ?_ | refine seqN ?_ | refine seqR ?_ | refine seqE ?_ | refine rndN ?_ | refine blkN ?_ | refine blkR ?_ | refine blkE1 ?_ | refine blkE0 (by kernel_rfl) ?_ | refine scpN ?_ | refine scpR ?_ | refine scpE ?_ | refine TOps.nil ?_ | exact Conj.nil | refine Conj.cons rfl ?_ | refine Conj.same ?_ | refine Conj.ask ?_ ?_ | refine Tw.regd env ?_ | refine TDr.nil ⟨by kernel_rfl, ?_⟩
            | ((with_reducible refine TOps.any ?_); first | refine TOps.frunP env (by rfl) (by rfl) ?_ ?_ | (refine TOps.known (by rfl) ?_; refine TOps.strip env (by rfl) (by rfl) ?_ ?_) | refine TOps.on (by rfl) (by rfl) ?_)
            | ((with_reducible refine TDr.any ?_); refine TDr.frunP env (by rfl) (by rfl) ?_ ?_)
            | ((with_reducible refine Tw.any ?_); first | refine Tw.condT (by rfl) ?_ | refine Tw.condF (by rfl) ?_)
            | ((first | ((with_reducible refine TOps.any ?_); (fail_if_success refine TOps.known (by rfl) ?_); refine TOps.ask (by rfl) (fun h => ?_) (fun h => ?_)) | ((with_reducible refine TDr.any ?_); (fail_if_success refine TDr.known (by first | rfl | assumption) ?_); refine TDr.ask (by rfl) (fun h hk => ?_) (fun h => ?_)) | ((with_reducible refine Tw.any ?_); refine Tw.cond (by rfl) (fun h => ?_) (fun h => ?_))) <;> (try simp only [goS] at h) <;> (try simp only [rdi, rdy, rd2i, rd3i, Int.toNat_natCast, Nat.add_zero] at h))
            | ((with_reducible refine tret.any ?_); first | refine tret.ok (by rfl) ?_ | refine tret.okN (by rfl) ?_)
            | ((with_reducible refine Due.mk ?_); (first | with_reducible rfl | omega | assumption | decide | ((try simp only [goS] at *) <;> (try intro h) <;> (try intro h') <;> (try simp only [goS] at *) <;> (try simp only [rdi, rdy, rd2i, rd3i, Int.toNat_natCast, Nat.add_zero] at *) <;> (try simp only [rng]) <;> (first | assumption | omega)) | (exact due_app0 (by omega)) | (exact due_app (by omega)) | (intros; simp; done) | (intros; simp; omega)))
            | with_reducible refine Due.mk ?_
            | omega)
        rcases Nat.lt_or_ge k t with hk | hk
        · repeat' (first
            | with_reducible first | refine Tw.seq ?_ | refine Tw.reg ?_ | refine Tw.block ?_ | refine Tw.scope ?_ | refine Tw.skip ?_ | refine Tw.exit ?_ | refine Tw.ret ?_ | refine seqN ?_ | refine seqR ?_ | refine seqE ?_ | refine rndN ?_ | refine blkN ?_ | refine blkR ?_ | refine blkE1 ?_ | refine blkE0 (by kernel_rfl) ?_ | refine scpN ?_ | refine scpR ?_ | refine scpE ?_ | refine TOps.nil ?_ | exact Conj.nil | refine Conj.cons rfl ?_ | refine Conj.same ?_ | refine Conj.ask ?_ ?_ | refine Tw.regd env ?_ | refine TDr.nil ⟨by kernel_rfl, ?_⟩
            | ((with_reducible refine TOps.any ?_); first | refine TOps.frunP env (by rfl) (by rfl) ?_ ?_ | (refine TOps.known (by rfl) ?_; refine TOps.strip env (by rfl) (by rfl) ?_ ?_) | refine TOps.on (by rfl) (by rfl) ?_)
            | ((with_reducible refine TDr.any ?_); refine TDr.frunP env (by rfl) (by rfl) ?_ ?_)
            | ((with_reducible refine Tw.any ?_); first | refine Tw.condT (by rfl) ?_ | refine Tw.condF (by rfl) ?_)
            | ((first | ((with_reducible refine TOps.any ?_); (fail_if_success refine TOps.known (by rfl) ?_); refine TOps.ask (by rfl) (fun h => ?_) (fun h => ?_)) | ((with_reducible refine TDr.any ?_); (fail_if_success refine TDr.known (by first | rfl | assumption) ?_); refine TDr.ask (by rfl) (fun h hk => ?_) (fun h => ?_)) | ((with_reducible refine Tw.any ?_); refine Tw.cond (by rfl) (fun h => ?_) (fun h => ?_))) <;> (try simp only [goS] at h) <;> (try simp only [rdi, rdy, rd2i, rd3i, Int.toNat_natCast, Nat.add_zero] at h) <;> (try (exfalso; (try simp only [goP, reduceCtorEq] at h) <;> (first | assumption | omega | contradiction | (rcases h with ⟨_, _⟩ <;> first | contradiction | omega) | (rcases h with h | h <;> first | contradiction | omega)))))
            | ((with_reducible refine tret.any ?_); first | refine tret.ok (by rfl) ?_ | refine tret.okN (by rfl) ?_)
            | ((with_reducible refine Due.mk ?_); (first | with_reducible rfl | omega | assumption | decide | ((try simp only [goS] at *) <;> (try intro h) <;> (try intro h') <;> (try simp only [goS] at *) <;> (try simp only [rdi, rdy, rd2i, rd3i, Int.toNat_natCast, Nat.add_zero] at *) <;> (try simp only [rng]) <;> (first | assumption | omega)) | (exact due_app0 (by omega)) | (exact due_app (by omega)) | (intros; simp; done) | (intros; simp; omega)))
            | with_reducible refine Due.mk ?_
            | omega)
          refine ⟨k + 1, by omega, by omega, TWk.fcanon env [] (by rfl) ?_⟩
          repeat' (first
            | with_reducible first | refine Tw.seq ?_ | refine Tw.reg ?_ | refine Tw.block ?_ | refine Tw.scope ?_ | refine Tw.skip ?_ | refine Tw.exit ?_ | refine Tw.ret ?_ | refine seqN ?_ | refine seqR ?_ | refine seqE ?_ | refine rndN ?_ | refine blkN ?_ | refine blkR ?_ | refine blkE1 ?_ | refine blkE0 (by kernel_rfl) ?_ | refine scpN ?_ | refine scpR ?_ | refine scpE ?_ | refine TOps.nil ?_ | exact Conj.nil | refine Conj.cons rfl ?_ | refine Conj.same ?_ | refine Conj.ask ?_ ?_ | refine Tw.regd env ?_ | refine TDr.nil ⟨by kernel_rfl, ?_⟩
            | ((with_reducible refine TOps.any ?_); first | refine TOps.frunP env (by rfl) (by rfl) ?_ ?_ | (refine TOps.known (by rfl) ?_; refine TOps.strip env (by rfl) (by rfl) ?_ ?_) | refine TOps.on (by rfl) (by rfl) ?_)
            | ((with_reducible refine TDr.any ?_); refine TDr.frunP env (by rfl) (by rfl) ?_ ?_)
            | ((with_reducible refine Tw.any ?_); first | refine Tw.condT (by rfl) ?_ | refine Tw.condF (by rfl) ?_)
            | ((first | ((with_reducible refine TOps.any ?_); (fail_if_success refine TOps.known (by rfl) ?_); refine TOps.ask (by rfl) (fun h => ?_) (fun h => ?_)) | ((with_reducible refine TDr.any ?_); (fail_if_success refine TDr.known (by first | rfl | assumption) ?_); refine TDr.ask (by rfl) (fun h hk => ?_) (fun h => ?_)) | ((with_reducible refine Tw.any ?_); refine Tw.cond (by rfl) (fun h => ?_) (fun h => ?_))) <;> (try simp only [goS] at h) <;> (try simp only [rdi, rdy, rd2i, rd3i, Int.toNat_natCast, Nat.add_zero] at h))
            | ((with_reducible refine tret.any ?_); first | refine tret.ok (by rfl) ?_ | refine tret.okN (by rfl) ?_)
            | ((with_reducible refine Due.mk ?_); (first | with_reducible rfl | omega | assumption | decide | ((try simp only [goS] at *) <;> (try intro h) <;> (try intro h') <;> (try simp only [goS] at *) <;> (try simp only [rdi, rdy, rd2i, rd3i, Int.toNat_natCast, Nat.add_zero] at *) <;> (try simp only [rng]) <;> (first | assumption | omega)) | (exact due_app0 (by omega)) | (exact due_app (by omega)) | (intros; simp; done) | (intros; simp; omega)))
            | with_reducible refine Due.mk ?_
            | omega)
        · obtain rfl : k = t := by omega
          repeat' (first
            | with_reducible first | refine Tw.seq ?_ | refine Tw.reg ?_ | refine Tw.block ?_ | refine Tw.scope ?_ | refine Tw.skip ?_ | refine Tw.exit ?_ | refine Tw.ret ?_ | refine seqN ?_ | refine seqR ?_ | refine seqE ?_ | refine rndN ?_ | refine blkN ?_ | refine blkR ?_ | refine blkE1 ?_ | refine blkE0 (by kernel_rfl) ?_ | refine scpN ?_ | refine scpR ?_ | refine scpE ?_ | refine TOps.nil ?_ | exact Conj.nil | refine Conj.cons rfl ?_ | refine Conj.same ?_ | refine Conj.ask ?_ ?_ | refine Tw.regd env ?_ | refine TDr.nil ⟨by kernel_rfl, ?_⟩
            | ((with_reducible refine TOps.any ?_); first | refine TOps.frunP env (by rfl) (by rfl) ?_ ?_ | (refine TOps.known (by rfl) ?_; refine TOps.strip env (by rfl) (by rfl) ?_ ?_) | refine TOps.on (by rfl) (by rfl) ?_)
            | ((with_reducible refine TDr.any ?_); refine TDr.frunP env (by rfl) (by rfl) ?_ ?_)
            | ((with_reducible refine Tw.any ?_); first | refine Tw.condT (by rfl) ?_ | refine Tw.condF (by rfl) ?_)
            | ((first | ((with_reducible refine TOps.any ?_); (fail_if_success refine TOps.known (by rfl) ?_); refine TOps.ask (by rfl) (fun h => ?_) (fun h => ?_)) | ((with_reducible refine TDr.any ?_); (fail_if_success refine TDr.known (by first | rfl | assumption) ?_); refine TDr.ask (by rfl) (fun h hk => ?_) (fun h => ?_)) | ((with_reducible refine Tw.any ?_); refine Tw.cond (by rfl) (fun h => ?_) (fun h => ?_))) <;> (try simp only [goS] at h) <;> (try simp only [rdi, rdy, rd2i, rd3i, Int.toNat_natCast, Nat.add_zero] at h) <;> (try (exfalso; (try simp only [goP, reduceCtorEq] at h) <;> (first | assumption | omega | contradiction | (rcases h with ⟨_, _⟩ <;> first | contradiction | omega) | (rcases h with h | h <;> first | contradiction | omega)))))
            | ((with_reducible refine tret.any ?_); first | refine tret.ok (by rfl) ?_ | refine tret.okN (by rfl) ?_)
            | ((with_reducible refine Due.mk ?_); (first | with_reducible rfl | omega | assumption | decide | ((try simp only [goS] at *) <;> (try intro h) <;> (try intro h') <;> (try simp only [goS] at *) <;> (try simp only [rdi, rdy, rd2i, rd3i, Int.toNat_natCast, Nat.add_zero] at *) <;> (try simp only [rng]) <;> (first | assumption | omega)) | (exact due_app0 (by omega)) | (exact due_app (by omega)) | (intros; simp; done) | (intros; simp; omega)))
            | with_reducible refine Due.mk ?_
            | omega)
          exact ⟨rfl, rfl, rfl⟩
end Go.Proofs.Ytanhalcbghbpaaa
