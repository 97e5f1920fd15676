/- The mark of a strip. -/
import Derived.Test.YtanhalcbghbpaaaStrip2
import Derived.Test.YtanhalcbghbpaaaSheet5
import Derived.Test.YtanhalcbghbpaaaSheet3
import Derived.Test.YtanhalcbghbpaaaStripW
import Derived.Test.YtanhalcbghbpaaaRuns2
import Derived.Test.YtanhalcbghbpaaaRuns3
import Derived.Test.YtanhalcbghbpaaaRunP
namespace Go.Proofs.Ytanhalcbghbpaaa
open Go Go.Lite
set_option linter.unusedVariables false
set_option linter.unusedSimpArgs false
set_option maxRecDepth 100000
set_option maxHeartbeats 4000000
-- @simp rdi rdy rd2i

def crF (a i x y : Nat) : Bool := decide ((y = a ∧ x < i) ∨ (x = a ∧ y < i))
theorem crF_zero {a x y : Nat} : crF a 0 x y = false := decide_eq_false (by omega)
theorem crF_step {a i x y : Nat} : ((crF a i x y || (decide (x = i) && decide (y = a))) || (decide (x = a) && decide (y = i))) = crF a (i + 1) x y := by
  unfold crF
  rw [← Bool.decide_and, ← Bool.decide_and, ← Bool.decide_or, ← Bool.decide_or]
  exact decide_eq_decide.2 (by omega)
theorem smark_c (a n : Nat) (hn : 2 * a + 1 = n) (ha : 1 ≤ a ∧ a ≤ 16) :
    TC R Try.prog strip_Mark_f [.int .i64 a] [] (fun v X => v = .tup [.agg [.int .i64 n, .int .i64 n, .lst Ey (bm n n (crF a n))], .int .i64 0] ∧ X = []) := by
  have en : 2 * (a : Int) + 1 = (n : Int) := by omega
  have hw : 1 ≤ n ∧ n ≤ 1024 := by omega
  have hlb := len_bd hw hw
  have bc := blank_c n n hw hw
  rw [bm_congr (g := crF a 0) fun x y _ _ => crF_zero.symm] at bc
  rw [← en] at bc
  refine tc0 env strip_Mark_s (by rfl) ?_
  dsimp only [strip_Mark_c]
  repeat' (first
    | ((with_reducible refine TOps.any ?_); refine TOps.callV env (by rfl) (by rfl) (by rfl) (bc) ?_)
    | with_reducible first | refine Tw.seq ?_ | refine Tw.reg ?_ | refine Tw.block ?_ | refine Tw.scope ?_ | refine Tw.skip ?_ | refine Tw.exit ?_ | refine Tw.ret ?_ | refine seqN ?_ | refine seqR ?_ | refine seqE ?_ | refine rndN ?_ | refine blkN ?_ | refine blkR ?_ | refine blkE1 ?_ | refine blkE0 (by kernel_rfl) ?_ | refine scpN ?_ | refine scpR ?_ | refine scpE ?_ | refine TOps.nil ?_ | exact Conj.nil | refine Conj.cons rfl ?_ | refine Conj.same ?_ | refine Conj.ask ?_ ?_ | refine Tw.regd env ?_ | refine TDr.nil ⟨by kernel_rfl, ?_⟩
    | ((with_reducible refine TOps.any ?_); first | refine TOps.frunP env (by rfl) (by rfl) ?_ ?_ | (refine TOps.known (by rfl) ?_; refine TOps.strip env (by rfl) (by rfl) ?_ ?_) | refine TOps.on (by rfl) (by rfl) ?_)
    | ((with_reducible refine TDr.any ?_); refine TDr.frunP env (by rfl) (by rfl) ?_ ?_)
    | ((with_reducible refine Tw.any ?_); first | refine Tw.condT (by rfl) ?_ | refine Tw.condF (by rfl) ?_)
    | ((first | ((with_reducible refine TOps.any ?_); (fail_if_success refine TOps.known (by rfl) ?_); refine TOps.ask (by rfl) (fun h => ?_) (fun h => ?_)) | ((with_reducible refine TDr.any ?_); (fail_if_success refine TDr.known (by first | rfl | assumption) ?_); refine TDr.ask (by rfl) (fun h hk => ?_) (fun h => ?_)) | ((with_reducible refine Tw.any ?_); refine Tw.cond (by rfl) (fun h => ?_) (fun h => ?_))) <;> (try simp only [goS] at h) <;> (try simp only [rdi, rdy, rd2i, Int.toNat_natCast, Nat.add_zero] at h) <;> (try (exfalso; (try simp only [goP, reduceCtorEq] at h) <;> (first | assumption | omega | contradiction | (rcases h with ⟨_, _⟩ <;> first | contradiction | omega) | (rcases h with h | h <;> first | contradiction | omega)))))
    | ((with_reducible refine tret.any ?_); first | refine tret.ok (by rfl) ?_ | refine tret.okN (by rfl) ?_)
    | ((with_reducible refine Due.mk ?_); (first | with_reducible rfl | omega | assumption | decide | ((try simp only [goS] at *) <;> (try intro h) <;> (try intro h') <;> (try simp only [goS] at *) <;> (try simp only [rdi, rdy, rd2i, Int.toNat_natCast, Nat.add_zero] at *) <;> (try simp only [rng]) <;> (first | assumption | omega)) | (exact due_app0 (by omega)) | (exact due_app (by omega)) | (intros; simp; done) | (intros; simp; omega)))
    | with_reducible refine Due.mk ?_
    | omega)
  refine Tw.loopK [0] (fun i : Nat => i ≤ n) (fun i => n - i) (fun i => [(22, .int .i64 n), (23, .int .i64 i), (2, .ptr 0 0), (4, .ptr 2 0)])
    (fun i => [some (.cells [.int .i64 0, .int .i64 0, .nils]), some (.arr Ey (bm n n (crF a i))), some (.cells [.int .i64 n, .int .i64 n, .sla 1 1 0 (st n * n)])]) ⟨0, by omega, TWk.fcanon env [some 0, some 1, some 2] (by rfl) ?_⟩ (fun i hi => ?_)
  · repeat' (first
      | with_reducible first | refine Tw.seq ?_ | refine Tw.reg ?_ | refine Tw.block ?_ | refine Tw.scope ?_ | refine Tw.skip ?_ | refine Tw.exit ?_ | refine Tw.ret ?_ | refine seqN ?_ | refine seqR ?_ | refine seqE ?_ | refine rndN ?_ | refine blkN ?_ | refine blkR ?_ | refine blkE1 ?_ | refine blkE0 (by kernel_rfl) ?_ | refine scpN ?_ | refine scpR ?_ | refine scpE ?_ | refine TOps.nil ?_ | exact Conj.nil | refine Conj.cons rfl ?_ | refine Conj.same ?_ | refine Conj.ask ?_ ?_ | refine Tw.regd env ?_ | refine TDr.nil ⟨by kernel_rfl, ?_⟩
      | ((with_reducible refine TOps.any ?_); first | refine TOps.frunP env (by rfl) (by rfl) ?_ ?_ | (refine TOps.known (by rfl) ?_; refine TOps.strip env (by rfl) (by rfl) ?_ ?_) | refine TOps.on (by rfl) (by rfl) ?_)
      | ((with_reducible refine TDr.any ?_); refine TDr.frunP env (by rfl) (by rfl) ?_ ?_)
      | ((with_reducible refine Tw.any ?_); first | refine Tw.condT (by rfl) ?_ | refine Tw.condF (by rfl) ?_)
      | ((first | ((with_reducible refine TOps.any ?_); (fail_if_success refine TOps.known (by rfl) ?_); refine TOps.ask (by rfl) (fun h => ?_) (fun h => ?_)) | ((with_reducible refine TDr.any ?_); (fail_if_success refine TDr.known (by first | rfl | assumption) ?_); refine TDr.ask (by rfl) (fun h hk => ?_) (fun h => ?_)) | ((with_reducible refine Tw.any ?_); refine Tw.cond (by rfl) (fun h => ?_) (fun h => ?_))) <;> (try simp only [goS] at h) <;> (try simp only [rdi, rdy, rd2i, en, Int.toNat_natCast, Nat.add_zero] at h))
      | ((with_reducible refine tret.any ?_); first | refine tret.ok (by rfl) ?_ | refine tret.okN (by rfl) ?_)
      | ((with_reducible refine Due.mk ?_); (first | with_reducible rfl | omega | assumption | decide | ((try simp only [goS] at *) <;> (try intro h) <;> (try intro h') <;> (try simp only [goS] at *) <;> (try simp only [rdi, rdy, rd2i, en, Int.toNat_natCast, Nat.add_zero] at *) <;> (try simp only [rng]) <;> (first | assumption | omega)) | (exact due_app0 (by omega)) | (exact due_app (by omega)) | (intros; simp; done) | (intros; simp; omega)))
      | with_reducible refine Due.mk ?_
      | omega)
  rcases Nat.lt_or_ge i n with hi | hi
  · have hb1 := bm_bd (w := n) (h := n) (f := crF a i) (at8_lt (show i < n by omega) (show a < n by omega))
    have hl1 := bm_len (w := n) (h := n) (f := crF a i)
    have m1 := mark_c n n (bm n n (crF a i)) i a hw hw hl1 hb1 (by unfold Due; omega) (by unfold Due; omega)
    rw [bm_mark (f := crF a i) (show i < n by omega) (show a < n by omega)] at m1
    have hb2 := bm_bd (w := n) (h := n) (f := fun x y => crF a i x y || (decide (x = i) && decide (y = a))) (at8_lt (show a < n by omega) (show i < n by omega))
    have hl2 := bm_len (w := n) (h := n) (f := fun x y => crF a i x y || (decide (x = i) && decide (y = a)))
    have m2 := mark_c n n (bm n n fun x y => crF a i x y || (decide (x = i) && decide (y = a))) a i hw hw hl2 hb2 (by unfold Due; omega) (by unfold Due; omega)
    rw [bm_mark (f := fun x y => crF a i x y || (decide (x = i) && decide (y = a))) (show a < n by omega) (show i < n by omega), bm_congr fun x y _ _ => crF_step] at m2
    repeat' (first
      | ((with_reducible refine TOps.any ?_); refine TOps.callHE env [2, 1] (m1) (by rfl) (by rfl) (by rfl) (by rfl) (by rfl) (by rfl) (by repeat' (first | exact trivial | refine ⟨rfl, ?_⟩)) ?_)
      | ((with_reducible refine TOps.any ?_); refine TOps.callHE env [2, 1] (m2) (by rfl) (by rfl) (by rfl) (by rfl) (by rfl) (by rfl) (by repeat' (first | exact trivial | refine ⟨rfl, ?_⟩)) ?_)
      | with_reducible first | refine Tw.seq ?_ | refine Tw.reg ?_ | refine Tw.block ?_ | refine Tw.scope ?_ | refine Tw.skip ?_ | refine Tw.exit ?_ | refine Tw.ret ?_ | refine seqN ?_ | refine seqR ?_ | refine seqE ?_ | refine rndN ?_ | refine blkN ?_ | refine blkR ?_ | refine blkE1 ?_ | refine blkE0 (by kernel_rfl) ?_ | refine scpN ?_ | refine scpR ?_ | refine scpE ?_ | refine TOps.nil ?_ | exact Conj.nil | refine Conj.cons rfl ?_ | refine Conj.same ?_ | refine Conj.ask ?_ ?_ | refine Tw.regd env ?_ | refine TDr.nil ⟨by kernel_rfl, ?_⟩
      | ((with_reducible refine TOps.any ?_); first | refine TOps.frunP env (by rfl) (by rfl) ?_ ?_ | (refine TOps.known (by rfl) ?_; refine TOps.strip env (by rfl) (by rfl) ?_ ?_) | refine TOps.on (by rfl) (by rfl) ?_)
      | ((with_reducible refine TDr.any ?_); refine TDr.frunP env (by rfl) (by rfl) ?_ ?_)
      | ((with_reducible refine Tw.any ?_); first | refine Tw.condT (by rfl) ?_ | refine Tw.condF (by rfl) ?_)
      | ((first | ((with_reducible refine TOps.any ?_); (fail_if_success refine TOps.known (by rfl) ?_); refine TOps.ask (by rfl) (fun h => ?_) (fun h => ?_)) | ((with_reducible refine TDr.any ?_); (fail_if_success refine TDr.known (by first | rfl | assumption) ?_); refine TDr.ask (by rfl) (fun h hk => ?_) (fun h => ?_)) | ((with_reducible refine Tw.any ?_); refine Tw.cond (by rfl) (fun h => ?_) (fun h => ?_))) <;> (try simp only [goS] at h) <;> (try simp only [rdi, rdy, rd2i, Int.toNat_natCast, Nat.add_zero] at h) <;> (try (exfalso; (try simp only [goP, reduceCtorEq] at h) <;> (first | assumption | omega | contradiction | (rcases h with ⟨_, _⟩ <;> first | contradiction | omega) | (rcases h with h | h <;> first | contradiction | omega)))))
      | ((with_reducible refine tret.any ?_); first | refine tret.ok (by rfl) ?_ | refine tret.okN (by rfl) ?_)
      | ((with_reducible refine Due.mk ?_); (first | with_reducible rfl | omega | assumption | decide | ((try simp only [goS] at *) <;> (try intro h) <;> (try intro h') <;> (try simp only [goS] at *) <;> (try simp only [rdi, rdy, rd2i, Int.toNat_natCast, Nat.add_zero] at *) <;> (try simp only [rng]) <;> (first | assumption | omega)) | (exact due_app0 (by omega)) | (exact due_app (by omega)) | (intros; simp; done) | (intros; simp; omega)))
      | with_reducible refine Due.mk ?_
      | omega)
    refine ⟨i + 1, by omega, by omega, TWk.fcanon env [some 0, some 1, some 2] (by rfl) ?_⟩
    repeat' (first
      | with_reducible first | refine Tw.seq ?_ | refine Tw.reg ?_ | refine Tw.block ?_ | refine Tw.scope ?_ | refine Tw.skip ?_ | refine Tw.exit ?_ | refine Tw.ret ?_ | refine seqN ?_ | refine seqR ?_ | refine seqE ?_ | refine rndN ?_ | refine blkN ?_ | refine blkR ?_ | refine blkE1 ?_ | refine blkE0 (by kernel_rfl) ?_ | refine scpN ?_ | refine scpR ?_ | refine scpE ?_ | refine TOps.nil ?_ | exact Conj.nil | refine Conj.cons rfl ?_ | refine Conj.same ?_ | refine Conj.ask ?_ ?_ | refine Tw.regd env ?_ | refine TDr.nil ⟨by kernel_rfl, ?_⟩
      | ((with_reducible refine TOps.any ?_); first | refine TOps.frunP env (by rfl) (by rfl) ?_ ?_ | (refine TOps.known (by rfl) ?_; refine TOps.strip env (by rfl) (by rfl) ?_ ?_) | refine TOps.on (by rfl) (by rfl) ?_)
      | ((with_reducible refine TDr.any ?_); refine TDr.frunP env (by rfl) (by rfl) ?_ ?_)
      | ((with_reducible refine Tw.any ?_); first | refine Tw.condT (by rfl) ?_ | refine Tw.condF (by rfl) ?_)
      | ((first | ((with_reducible refine TOps.any ?_); (fail_if_success refine TOps.known (by rfl) ?_); refine TOps.ask (by rfl) (fun h => ?_) (fun h => ?_)) | ((with_reducible refine TDr.any ?_); (fail_if_success refine TDr.known (by first | rfl | assumption) ?_); refine TDr.ask (by rfl) (fun h hk => ?_) (fun h => ?_)) | ((with_reducible refine Tw.any ?_); refine Tw.cond (by rfl) (fun h => ?_) (fun h => ?_))) <;> (try simp only [goS] at h) <;> (try simp only [rdi, rdy, rd2i, Int.toNat_natCast, Nat.add_zero] at h))
      | ((with_reducible refine tret.any ?_); first | refine tret.ok (by rfl) ?_ | refine tret.okN (by rfl) ?_)
      | ((with_reducible refine Due.mk ?_); (first | with_reducible rfl | omega | assumption | decide | ((try simp only [goS] at *) <;> (try intro h) <;> (try intro h') <;> (try simp only [goS] at *) <;> (try simp only [rdi, rdy, rd2i, Int.toNat_natCast, Nat.add_zero] at *) <;> (try simp only [rng]) <;> (first | assumption | omega)) | (exact due_app0 (by omega)) | (exact due_app (by omega)) | (intros; simp; done) | (intros; simp; omega)))
      | with_reducible refine Due.mk ?_
      | omega)
  · obtain rfl : i = n := by omega
    have hle : 0 + st i * i ≤ (bm i i (crF a i)).length := by rw [bm_len]; omega
    repeat' (first
      | exact hle
      | ((with_reducible refine Tw.retI ?_); refine Tw.frz env 1 (by rfl) (by rfl) (by rfl) ?_ ?_ (Tw.ret ?_))
      | with_reducible first | refine Tw.seq ?_ | refine Tw.reg ?_ | refine Tw.block ?_ | refine Tw.scope ?_ | refine Tw.skip ?_ | refine Tw.exit ?_ | refine Tw.ret ?_ | refine seqN ?_ | refine seqR ?_ | refine seqE ?_ | refine rndN ?_ | refine blkN ?_ | refine blkR ?_ | refine blkE1 ?_ | refine blkE0 (by kernel_rfl) ?_ | refine scpN ?_ | refine scpR ?_ | refine scpE ?_ | refine TOps.nil ?_ | exact Conj.nil | refine Conj.cons rfl ?_ | refine Conj.same ?_ | refine Conj.ask ?_ ?_ | refine Tw.regd env ?_ | refine TDr.nil ⟨by kernel_rfl, ?_⟩
      | ((with_reducible refine TOps.any ?_); first | refine TOps.frunP env (by rfl) (by rfl) ?_ ?_ | (refine TOps.known (by rfl) ?_; refine TOps.strip env (by rfl) (by rfl) ?_ ?_) | refine TOps.on (by rfl) (by rfl) ?_)
      | ((with_reducible refine TDr.any ?_); refine TDr.frunP env (by rfl) (by rfl) ?_ ?_)
      | ((with_reducible refine Tw.any ?_); first | refine Tw.condT (by rfl) ?_ | refine Tw.condF (by rfl) ?_)
      | ((first | ((with_reducible refine TOps.any ?_); (fail_if_success refine TOps.known (by rfl) ?_); refine TOps.ask (by rfl) (fun h => ?_) (fun h => ?_)) | ((with_reducible refine TDr.any ?_); (fail_if_success refine TDr.known (by first | rfl | assumption) ?_); refine TDr.ask (by rfl) (fun h hk => ?_) (fun h => ?_)) | ((with_reducible refine Tw.any ?_); refine Tw.cond (by rfl) (fun h => ?_) (fun h => ?_))) <;> (try simp only [goS] at h) <;> (try simp only [rdi, rdy, rd2i, Int.toNat_natCast, Nat.add_zero] at h) <;> (try (exfalso; (try simp only [goP, reduceCtorEq] at h) <;> (first | assumption | omega | contradiction | (rcases h with ⟨_, _⟩ <;> first | contradiction | omega) | (rcases h with h | h <;> first | contradiction | omega)))))
      | ((with_reducible refine tret.any ?_); first | refine tret.ok (by rfl) ?_ | refine tret.okN (by rfl) ?_)
      | ((with_reducible refine Due.mk ?_); (first | with_reducible rfl | omega | assumption | decide | ((try simp only [goS] at *) <;> (try intro h) <;> (try intro h') <;> (try simp only [goS] at *) <;> (try simp only [rdi, rdy, rd2i, Int.toNat_natCast, Nat.add_zero] at *) <;> (try simp only [rng]) <;> (first | assumption | omega)) | (exact due_app0 (by omega)) | (exact due_app (by omega)) | (intros; simp; done) | (intros; simp; omega)))
      | with_reducible refine Due.mk ?_
      | omega)
    rw [cut_all bm_len.symm]
    exact ⟨rfl, rfl, rfl⟩

/-- The mark, in the midst of a bitmap. -/
def shR (t : R3) : R3 := (t.1 + 6, t.2.1 + 6, t.2.2 + 6)

theorem setG_bit (w : Nat) (P : Nat → Nat → Nat → Bool) (j n : Nat) : ∀ m, n < m → bitI (setG w P j m) n = P n (j % w) (j / w) := by
  intro m
  induction m with
  | zero => intro h; omega
  | succ m ih =>
    intro h
    have bd := setG_bd w P j m
    obtain ⟨a, ha⟩ : ∃ a : Nat, setG w P j m = a := ⟨(setG w P j m).toNat, by omega⟩
    have h2 : ((2 ^ m : Nat) : Int) = (2 : Int) ^ m := by simp
    have hlt : a < 2 ^ m := by omega
    have e : setG w P j (m + 1) = setG w P j m + if P m (j % w) (j / w) then 2 ^ m else 0 := rfl
    by_cases hp : P m (j % w) (j / w) = true
    · have e2 : setG w P j (m + 1) = ((2 ^ m + a : Nat) : Int) := by rw [e, if_pos hp, ha, ← h2]; omega
      by_cases hn : n = m
      · subst hn
        unfold bitI
        rw [e2, Int.toNat_natCast, Nat.testBit_two_pow_add_eq, Nat.testBit_lt_two_pow hlt, hp]; rfl
      · have := ih (by omega)
        unfold bitI at this ⊢
        rw [ha, Int.toNat_natCast] at this
        rw [e2, Int.toNat_natCast, Nat.testBit_two_pow_add_gt (by omega)]
        exact this
    · have e2 : setG w P j (m + 1) = (a : Int) := by rw [e, if_neg hp, ha, Int.add_zero]
      by_cases hn : n = m
      · subst hn
        unfold bitI
        rw [e2, Int.toNat_natCast, Nat.testBit_lt_two_pow hlt]
        simpa using hp
      · have := ih (by omega)
        unfold bitI at this ⊢
        rw [ha, Int.toNat_natCast] at this
        rw [e2, Int.toNat_natCast]
        exact this
def dR : R3 := ((0 : Int), (0 : Int), (0 : Int))
/-- The runs of the mark, moved. -/
def mkL (a : Nat) : List R3 := runsTo (fun x y => px (2 * a + 1) (2 * a + 1) (bm (2 * a + 1) (2 * a + 1) (crF a (2 * a + 1))) x y) (2 * a + 1) (2 * a + 1)
theorem mkL_ok {a : Nat} : ∀ t ∈ mkL a, runOk (2 * a + 1) (2 * a + 1) t := runsTo_ok _
theorem mkL_at {a i : Nat} (hi : i < (mkL a).length) : (((mkL a).map shR).getD i ((0 : Int), (0 : Int), (0 : Int))) = (((((mkL a).getD i dR).1.toNat + 6 : Nat) : Int), ((((mkL a).getD i dR).2.1.toNat + 6 : Nat) : Int), ((((mkL a).getD i dR).2.2.toNat + 6 : Nat) : Int)) := by
  obtain ⟨y, p, q, e, _⟩ := mkL_ok _ (getD_mem (d := dR) hi)
  have : ((mkL a).map shR).getD i ((0 : Int), (0 : Int), (0 : Int)) = shR ((mkL a).getD i dR) := by
    rw [getD_get _ (by simpa using hi), getD_get _ hi, List.getElem_map]
  rw [this, e]; rfl
theorem covI {Y A B : Nat → Nat} {x y : Nat} : ∀ n, covN Y A B n x y = true ↔ ∃ i, i < n ∧ Y i = y ∧ A i ≤ x ∧ x < B i
  | 0 => by simp [covN]
  | n + 1 => by
    simp only [covN, Bool.or_eq_true, Bool.and_eq_true, decide_eq_true_eq]
    rw [covI n]
    constructor
    · rintro (⟨i, h1, h2⟩ | h)
      · exact ⟨i, by omega, h2⟩
      · exact ⟨n, by omega, h.1.1, h.1.2, h.2⟩
    · rintro ⟨i, h1, h2, h3, h4⟩
      by_cases e : i = n
      · subst e; exact .inr ⟨⟨h2, h3⟩, h4⟩
      · exact .inl ⟨i, by omega, h2, h3, h4⟩
/-- The bitmap with the mark in the midst. -/
def midB (a : Nat) : List Int := bm (2 * a + 13) (2 * a + 13) fun x y => crossP a (a + 6) (a + 6) x y
theorem mid_cov {a : Nat} : bm (2 * a + 13) (2 * a + 13) (covN (fun i => ((mkL a).getD i dR).1.toNat + 6) (fun i => ((mkL a).getD i dR).2.1.toNat + 6) (fun i => ((mkL a).getD i dR).2.2.toNat + 6) (mkL a).length) = midB a := by
  refine bm_congr fun x y hx hy => ?_
  apply Bool.eq_iff_iff.2
  rw [covI]
  have key : ∀ u v : Nat, u < 2 * a + 1 → v < 2 * a + 1 → (crF a (2 * a + 1) u v = true ↔ ∃ t ∈ mkL a, t.1 = v ∧ t.2.1 ≤ u ∧ (u : Int) < t.2.2) := fun u v hu hv => by
    have := runsTo_cov (p := fun x y => px (2 * a + 1) (2 * a + 1) (bm (2 * a + 1) (2 * a + 1) (crF a (2 * a + 1))) x y) (w := 2 * a + 1) (2 * a + 1) u v hu hv
    rwa [px_bm hu hv] at this
  constructor
  · rintro ⟨i, hi, h1, h2, h3⟩
    obtain ⟨v, p, q, e, k1, k2, k3⟩ := mkL_ok _ (getD_mem (d := dR) hi)
    rw [e] at h1 h2 h3
    simp only [Int.toNat_natCast] at h1 h2 h3
    have := (key (x - 6) (y - 6) (by omega) (by omega)).2 ⟨_, getD_mem hi, by rw [e]; simp only; omega, by rw [e]; simp only; omega, by rw [e]; simp only; omega⟩
    simp only [crF, crossP, decide_eq_true_eq] at this ⊢
    omega
  · intro h
    simp only [crossP, decide_eq_true_eq] at h
    have hc : crF a (2 * a + 1) (x - 6) (y - 6) = true := by simp only [crF, decide_eq_true_eq]; omega
    obtain ⟨t, ht, h1, h2, h3⟩ := (key (x - 6) (y - 6) (by omega) (by omega)).1 hc
    obtain ⟨i, hi, rfl⟩ := mem_getD (d := dR) ht
    obtain ⟨v, p, q, e, k1, k2, k3⟩ := mkL_ok _ (getD_mem (d := dR) hi)
    refine ⟨i, hi, ?_⟩
    rw [e] at h1 h2 h3 ⊢
    simp only [Int.toNat_natCast] at h1 h2 h3 ⊢
    omega
theorem mid_ok {a : Nat} (ha : 1 ≤ a ∧ a ≤ 5) : BmOk (2 * a + 13) (2 * a + 13) (midB a) := bm_ok (by omega) (by omega)
theorem px_mid {a : Nat} {s t : Int} : px (2 * a + 13) (2 * a + 13) (midB a) s t = crossP a (a + 6) (a + 6) s t := by
  by_cases h : 0 ≤ s ∧ s < (2 * a + 13 : Nat) ∧ 0 ≤ t ∧ t < (2 * a + 13 : Nat)
  · obtain ⟨i, rfl⟩ : ∃ i : Nat, s = i := ⟨s.toNat, by omega⟩
    obtain ⟨j, rfl⟩ : ∃ j : Nat, t = j := ⟨t.toNat, by omega⟩
    unfold midB
    rw [px_bm (by omega) (by omega)]
  · rw [px_out h]
    unfold crossP
    exact (decide_eq_false (by omega)).symm
/-- The mark of an ink that is printed with an offset is found there. -/
theorem found_loc {a : Nat} (ha : 1 ≤ a ∧ a ≤ 5) {p q : Int} (hp : -6 ≤ p ∧ p ≤ 6) (hq : -6 ≤ q ∧ q ≤ 6) {D : List Int} (hD : D = bm (2 * a + 13) (2 * a + 13) fun x y => px (2 * a + 13) (2 * a + 13) (midB a) ((x : Int) - p) ((y : Int) - q)) :
    BmOk (2 * a + 13) (2 * a + 13) D ∧ TC R Try.prog strip_Locate_f [.agg [.int .i64 ((2 * a + 13 : Nat) : Int), .int .i64 ((2 * a + 13 : Nat) : Int), .lst Ey D], .int .i64 a] [] (fun v X => v = .tup [.agg [.int .i64 ((a : Int) + 6 + p), .int .i64 ((a : Int) + 6 + q)], .int .i64 0] ∧ X = []) := by
  have ok : BmOk (2 * a + 13) (2 * a + 13) D := by rw [hD]; exact bm_ok (by omega) (by omega)
  obtain ⟨x0, hx0⟩ : ∃ x0 : Nat, (a : Int) + 6 + p = x0 := ⟨((a : Int) + 6 + p).toNat, by omega⟩
  obtain ⟨y0, hy0⟩ : ∃ y0 : Nat, (a : Int) + 6 + q = y0 := ⟨((a : Int) + 6 + q).toNat, by omega⟩
  have e : px (2 * a + 13) (2 * a + 13) D = crossP a x0 y0 := by
    funext s t
    rw [hD]
    by_cases h : 0 ≤ s ∧ s < (2 * a + 13 : Nat) ∧ 0 ≤ t ∧ t < (2 * a + 13 : Nat)
    · obtain ⟨i, rfl⟩ : ∃ i : Nat, s = i := ⟨s.toNat, by omega⟩
      obtain ⟨j, rfl⟩ : ∃ j : Nat, t = j := ⟨t.toNat, by omega⟩
      rw [px_bm (by omega) (by omega), px_mid]
      unfold crossP
      exact decide_eq_decide.2 (by omega)
    · rw [px_out h]
      unfold crossP
      exact (decide_eq_false (by omega)).symm
  refine ⟨ok, ?_⟩
  rw [hx0, hy0]
  refine locate_y _ _ D a x0 y0 ok (by omega) (by omega) (by omega) ?_ fun x y _ _ _ _ hne => ?_
  · rw [e, mis_own]; omega
  · rw [e]
    have := mis_else (a := a) hne
    omega
end Go.Proofs.Ytanhalcbghbpaaa
