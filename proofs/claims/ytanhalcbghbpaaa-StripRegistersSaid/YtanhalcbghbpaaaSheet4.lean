/- Print: bitmaps on each other, without growth and shift. -/
import Derived.Test.YtanhalcbghbpaaaSheet3
namespace Go.Proofs.Ytanhalcbghbpaaa
open Go Go.Lite
set_option linter.unusedVariables false
set_option linter.unusedSimpArgs false
set_option maxRecDepth 100000
set_option maxHeartbeats 4000000
-- @simp rdi rdy rd2i

abbrev Bt := Int × Int × List Int
abbrev dBt : Bt := R.d E2iLyJ
noncomputable def btE (b : Bt) : Int := bitsE b.1 b.2.1 b.2.2
def shOk (l : List Bt) : Prop := 1 ≤ l.length ∧ l.length ≤ 8 ∧ ∀ t, t < l.length → btE (l.getD t dBt) = 0 ∧ (l.getD t dBt).1 = (l.getD 0 dBt).1 ∧ (l.getD t dBt).2.1 = (l.getD 0 dBt).2.1
def bytesOk (l : List Bt) : Prop := ∀ t, t < l.length → ∀ i, i < (l.getD t dBt).2.2.length → 0 ≤ (l.getD t dBt).2.2.getD i 0 ∧ (l.getD t dBt).2.2.getD i 0 ≤ 255

def fstN (f : Nat → Int) : Nat → Int
  | 0 => 0
  | n + 1 => if fstN f n = 0 then f n else fstN f n
theorem fstN_zero {f : Nat → Int} : ∀ {n : Nat}, (∀ t, t < n → f t = 0) → fstN f n = 0
  | 0, _ => rfl
  | n + 1, h => by simp only [fstN]; rw [if_pos (fstN_zero fun t ht => h t (by omega))]; exact h n (by omega)
theorem fstN_all {f : Nat → Int} : ∀ {n : Nat}, fstN f n = 0 → ∀ t, t < n → f t = 0
  | 0, _ => fun t ht => by omega
  | n + 1, h => fun t ht => by
    simp only [fstN] at h
    split at h
    · rename_i h0
      by_cases e : t = n
      · subst e; exact h
      · exact fstN_all h0 t (by omega)
    · rename_i h0; exact absurd h h0
theorem fstN_at {f : Nat → Int} {i : Nat} (h0 : ∀ t, t < i → f t = 0) (h : f i ≠ 0) : ∀ {n : Nat}, i < n → fstN f n = f i
  | 0, hi => by omega
  | n + 1, hi => by
    simp only [fstN]
    by_cases e : i = n
    · subst e; rw [if_pos (fstN_zero h0)]
    · rw [fstN_at h0 h (n := n) (by omega), if_neg h]
noncomputable def elE (l : List Bt) (t : Nat) : Int := if btE (l.getD t dBt) = 0 then (if (l.getD t dBt).1 = (l.getD 0 dBt).1 ∧ (l.getD t dBt).2.1 = (l.getD 0 dBt).2.1 then 0 else 4) else btE (l.getD t dBt)
theorem elE_ok {l : List Bt} {t : Nat} : elE l t = 0 ↔ btE (l.getD t dBt) = 0 ∧ (l.getD t dBt).1 = (l.getD 0 dBt).1 ∧ (l.getD t dBt).2.1 = (l.getD 0 dBt).2.1 := by
  unfold elE
  split
  · rename_i h
    split
    · rename_i h2; exact ⟨fun _ => ⟨h, h2⟩, fun _ => rfl⟩
    · rename_i h2; exact ⟨fun h3 => (by cases h3), fun h3 => absurd h3.2 h2⟩
  · rename_i h; exact ⟨fun h3 => absurd h3 h, fun h3 => absurd h3.1 h⟩
noncomputable def shE (l : List Bt) : Int := if 8 < l.length then 2 else if l.length = 0 then 1 else fstN (elE l) l.length
theorem shE_ok {l : List Bt} : shE l = 0 ↔ shOk l := by
  unfold shE
  split
  · exact ⟨fun h => (by cases h), fun h => by have := h.2.1; omega⟩
  split
  · exact ⟨fun h => (by cases h), fun h => by have := h.1; omega⟩
  · exact ⟨fun h => ⟨by omega, by omega, fun t ht => elE_ok.1 (fstN_all h t ht)⟩, fun h => fstN_zero fun t ht => elE_ok.2 (h.2.2 t ht)⟩

theorem grown0_c (w k : Nat) (d : List Int) (ok : Due (BmOk w k d)) : TC R Try.prog bitmap_Grown_f [.pel [.int .i64 w, .int .i64 k, .lst Ey d], .int .i64 0] [] (fun v X => v = .agg [.int .i64 w, .int .i64 k, .sla 1 0 0 d.length] ∧ X = [some (.arr Ey d)]) := by
  dsimp only [Due] at ok
  have hlb := len_bd ok.w1 ok.h1
  have hl := ok.len
  have raw : TC R Try.prog bitmap_Grown_f [.pel [.int .i64 w, .int .i64 k, .lst Ey d], .int .i64 0] [] (fun v X => v = .agg [.int .i64 w, .int .i64 k, .sla 1 2 0 d.length] ∧ ∃ a b, X = [a, b, some (.arr Ey d)]) := by
    refine tc env bitmap_Grown_s (by rfl) ?_
    dsimp only [bitmap_Grown_c]
    repeat' (first
      | with_reducible first | refine Tw.seq ?_ | refine Tw.reg ?_ | refine Tw.block ?_ | refine Tw.scope ?_ | refine Tw.skip ?_ | refine Tw.exit ?_ | refine Tw.ret ?_ | refine seqN ?_ | refine seqR ?_ | refine seqE ?_ | refine rndN ?_ | refine blkN ?_ | refine blkR ?_ | refine blkE1 ?_ | refine blkE0 (by kernel_rfl) ?_ | refine scpN ?_ | refine scpR ?_ | refine scpE ?_ | refine TOps.nil ?_ | exact Conj.nil | refine Conj.cons rfl ?_ | refine Conj.same ?_ | refine Conj.ask ?_ ?_ | refine Tw.regd env ?_ | refine TDr.nil ⟨by kernel_rfl, ?_⟩
      | ((with_reducible refine TOps.any ?_); first | refine TOps.frunP env (by rfl) (by rfl) ?_ ?_ | (refine TOps.known (by rfl) ?_; refine TOps.strip env (by rfl) (by rfl) ?_ ?_) | refine TOps.on (by rfl) (by rfl) ?_)
      | ((with_reducible refine TDr.any ?_); refine TDr.frunP env (by rfl) (by rfl) ?_ ?_)
      | ((with_reducible refine Tw.any ?_); first | refine Tw.condT (by rfl) ?_ | refine Tw.condF (by rfl) ?_)
      | ((first | ((with_reducible refine TOps.any ?_); (fail_if_success refine TOps.known (by rfl) ?_); refine TOps.ask (by rfl) (fun h => ?_) (fun h => ?_)) | ((with_reducible refine TDr.any ?_); (fail_if_success refine TDr.known (by first | rfl | assumption) ?_); refine TDr.ask (by rfl) (fun h hk => ?_) (fun h => ?_)) | ((with_reducible refine Tw.any ?_); refine Tw.cond (by rfl) (fun h => ?_) (fun h => ?_))) <;> (try simp only [goS] at h) <;> (try simp only [rdi, rdy, rd2i, Int.toNat_natCast, Nat.add_zero] at h) <;> (try (exfalso; (try simp only [goP, reduceCtorEq] at h) <;> (first | assumption | omega | contradiction | (rcases h with ⟨_, _⟩ <;> first | contradiction | omega) | (rcases h with h | h <;> first | contradiction | omega)))))
      | ((with_reducible refine tret.any ?_); first | refine tret.ok (by rfl) ?_ | refine tret.okN (by rfl) ?_)
      | ((with_reducible refine Due.mk ?_); (first | with_reducible rfl | omega | assumption | decide | ((try simp only [goS] at *) <;> (try intro h) <;> (try intro h') <;> (try simp only [goS] at *) <;> (try simp only [rdi, rdy, rd2i, Int.toNat_natCast, Nat.add_zero] at *) <;> (try simp only [rng]) <;> (first | assumption | omega)) | (exact due_app0 (by omega)) | (exact due_app (by omega)) | (intros; simp; done) | (intros; simp; omega)))
      | with_reducible refine Due.mk ?_
      | omega)
    refine Tw.loopK [16, 17, 4, 5] (fun _ : Unit => True) (fun _ => 0) (fun _ => []) (fun _ => [some (.cells [.int .i64 0, .int .i64 0, .nils]), some (.cells [.int .i64 w, .int .i64 k, .sla 1 2 0 d.length]), some (.arr Ey d)]) ⟨(), trivial, TWk.fcanon env [some 0, some 1, some 2] (by rfl) ?_⟩ (fun _ _ => ?_)
    · repeat' (first
        | with_reducible first | refine Tw.seq ?_ | refine Tw.reg ?_ | refine Tw.block ?_ | refine Tw.scope ?_ | refine Tw.skip ?_ | refine Tw.exit ?_ | refine Tw.ret ?_ | refine seqN ?_ | refine seqR ?_ | refine seqE ?_ | refine rndN ?_ | refine blkN ?_ | refine blkR ?_ | refine blkE1 ?_ | refine blkE0 (by kernel_rfl) ?_ | refine scpN ?_ | refine scpR ?_ | refine scpE ?_ | refine TOps.nil ?_ | exact Conj.nil | refine Conj.cons rfl ?_ | refine Conj.same ?_ | refine Conj.ask ?_ ?_ | refine Tw.regd env ?_ | refine TDr.nil ⟨by kernel_rfl, ?_⟩
        | ((with_reducible refine TOps.any ?_); first | refine TOps.frunP env (by rfl) (by rfl) ?_ ?_ | (refine TOps.known (by rfl) ?_; refine TOps.strip env (by rfl) (by rfl) ?_ ?_) | refine TOps.on (by rfl) (by rfl) ?_)
        | ((with_reducible refine TDr.any ?_); refine TDr.frunP env (by rfl) (by rfl) ?_ ?_)
        | ((with_reducible refine Tw.any ?_); first | refine Tw.condT (by rfl) ?_ | refine Tw.condF (by rfl) ?_)
        | ((first | ((with_reducible refine TOps.any ?_); (fail_if_success refine TOps.known (by rfl) ?_); refine TOps.ask (by rfl) (fun h => ?_) (fun h => ?_)) | ((with_reducible refine TDr.any ?_); (fail_if_success refine TDr.known (by first | rfl | assumption) ?_); refine TDr.ask (by rfl) (fun h hk => ?_) (fun h => ?_)) | ((with_reducible refine Tw.any ?_); refine Tw.cond (by rfl) (fun h => ?_) (fun h => ?_))) <;> (try simp only [goS] at h) <;> (try simp only [rdi, rdy, rd2i, Int.toNat_natCast, Nat.add_zero] at h))
        | ((with_reducible refine tret.any ?_); first | refine tret.ok (by rfl) ?_ | refine tret.okN (by rfl) ?_)
        | ((with_reducible refine Due.mk ?_); (first | with_reducible rfl | omega | assumption | decide | ((try simp only [goS] at *) <;> (try intro h) <;> (try intro h') <;> (try simp only [goS] at *) <;> (try simp only [rdi, rdy, rd2i, Int.toNat_natCast, Nat.add_zero] at *) <;> (try simp only [rng]) <;> (first | assumption | omega)) | (exact due_app0 (by omega)) | (exact due_app (by omega)) | (intros; simp; done) | (intros; simp; omega)))
        | with_reducible refine Due.mk ?_
        | omega)
    repeat' (first
      | with_reducible first | refine Tw.seq ?_ | refine Tw.reg ?_ | refine Tw.block ?_ | refine Tw.scope ?_ | refine Tw.skip ?_ | refine Tw.exit ?_ | refine Tw.ret ?_ | refine seqN ?_ | refine seqR ?_ | refine seqE ?_ | refine rndN ?_ | refine blkN ?_ | refine blkR ?_ | refine blkE1 ?_ | refine blkE0 (by kernel_rfl) ?_ | refine scpN ?_ | refine scpR ?_ | refine scpE ?_ | refine TOps.nil ?_ | exact Conj.nil | refine Conj.cons rfl ?_ | refine Conj.same ?_ | refine Conj.ask ?_ ?_ | refine Tw.regd env ?_ | refine TDr.nil ⟨by kernel_rfl, ?_⟩
      | ((with_reducible refine TOps.any ?_); first | refine TOps.frunP env (by rfl) (by rfl) ?_ ?_ | (refine TOps.known (by rfl) ?_; refine TOps.strip env (by rfl) (by rfl) ?_ ?_) | refine TOps.on (by rfl) (by rfl) ?_)
      | ((with_reducible refine TDr.any ?_); refine TDr.frunP env (by rfl) (by rfl) ?_ ?_)
      | ((with_reducible refine Tw.any ?_); first | refine Tw.condT (by rfl) ?_ | refine Tw.condF (by rfl) ?_)
      | ((first | ((with_reducible refine TOps.any ?_); (fail_if_success refine TOps.known (by rfl) ?_); refine TOps.ask (by rfl) (fun h => ?_) (fun h => ?_)) | ((with_reducible refine TDr.any ?_); (fail_if_success refine TDr.known (by first | rfl | assumption) ?_); refine TDr.ask (by rfl) (fun h hk => ?_) (fun h => ?_)) | ((with_reducible refine Tw.any ?_); refine Tw.cond (by rfl) (fun h => ?_) (fun h => ?_))) <;> (try simp only [goS] at h) <;> (try simp only [rdi, rdy, rd2i, Int.toNat_natCast, Nat.add_zero] at h) <;> (try (exfalso; (try simp only [goP, reduceCtorEq] at h) <;> (first | assumption | omega | contradiction | (rcases h with ⟨_, _⟩ <;> first | contradiction | omega) | (rcases h with h | h <;> first | contradiction | omega)))))
      | ((with_reducible refine tret.any ?_); first | refine tret.ok (by rfl) ?_ | refine tret.okN (by rfl) ?_)
      | ((with_reducible refine Due.mk ?_); (first | with_reducible rfl | omega | assumption | decide | ((try simp only [goS] at *) <;> (try intro h) <;> (try intro h') <;> (try simp only [goS] at *) <;> (try simp only [rdi, rdy, rd2i, Int.toNat_natCast, Nat.add_zero] at *) <;> (try simp only [rng]) <;> (first | assumption | omega)) | (exact due_app0 (by omega)) | (exact due_app (by omega)) | (intros; simp; done) | (intros; simp; omega)))
      | with_reducible refine Due.mk ?_
      | omega)
    exact ⟨rfl, _, _, rfl⟩
  refine raw.wk fun v X h => ?_
  obtain ⟨rfl, a, b, rfl⟩ := h
  refine ⟨_, [some (.arr Ey d)], TWk.fcanon env [some 2] (F' := [(0, .agg [.int .i64 w, .int .i64 k, .sla 1 0 0 d.length])]) (by rfl) ?_, rfl, rfl⟩
  repeat' (first
    | with_reducible first | refine Tw.seq ?_ | refine Tw.reg ?_ | refine Tw.block ?_ | refine Tw.scope ?_ | refine Tw.skip ?_ | refine Tw.exit ?_ | refine Tw.ret ?_ | refine seqN ?_ | refine seqR ?_ | refine seqE ?_ | refine rndN ?_ | refine blkN ?_ | refine blkR ?_ | refine blkE1 ?_ | refine blkE0 (by kernel_rfl) ?_ | refine scpN ?_ | refine scpR ?_ | refine scpE ?_ | refine TOps.nil ?_ | exact Conj.nil | refine Conj.cons rfl ?_ | refine Conj.same ?_ | refine Conj.ask ?_ ?_ | refine Tw.regd env ?_ | refine TDr.nil ⟨by kernel_rfl, ?_⟩
    | ((with_reducible refine TOps.any ?_); first | refine TOps.frunP env (by rfl) (by rfl) ?_ ?_ | (refine TOps.known (by rfl) ?_; refine TOps.strip env (by rfl) (by rfl) ?_ ?_) | refine TOps.on (by rfl) (by rfl) ?_)
    | ((with_reducible refine TDr.any ?_); refine TDr.frunP env (by rfl) (by rfl) ?_ ?_)
    | ((with_reducible refine Tw.any ?_); first | refine Tw.condT (by rfl) ?_ | refine Tw.condF (by rfl) ?_)
    | ((first | ((with_reducible refine TOps.any ?_); (fail_if_success refine TOps.known (by rfl) ?_); refine TOps.ask (by rfl) (fun h => ?_) (fun h => ?_)) | ((with_reducible refine TDr.any ?_); (fail_if_success refine TDr.known (by first | rfl | assumption) ?_); refine TDr.ask (by rfl) (fun h hk => ?_) (fun h => ?_)) | ((with_reducible refine Tw.any ?_); refine Tw.cond (by rfl) (fun h => ?_) (fun h => ?_))) <;> (try simp only [goS] at h) <;> (try simp only [rdi, rdy, rd2i, Int.toNat_natCast, Nat.add_zero] at h))
    | ((with_reducible refine tret.any ?_); first | refine tret.ok (by rfl) ?_ | refine tret.okN (by rfl) ?_)
    | ((with_reducible refine Due.mk ?_); (first | with_reducible rfl | omega | assumption | decide | ((try simp only [goS] at *) <;> (try intro h) <;> (try intro h') <;> (try simp only [goS] at *) <;> (try simp only [rdi, rdy, rd2i, Int.toNat_natCast, Nat.add_zero] at *) <;> (try simp only [rng]) <;> (first | assumption | omega)) | (exact due_app0 (by omega)) | (exact due_app (by omega)) | (intros; simp; done) | (intros; simp; omega)))
    | with_reducible refine Due.mk ?_
    | omega)

theorem bor_top {a : Int} {i : Nat} (h : 0 ≤ a ∧ a < 2 ^ i) : bor a (2 ^ i) = a + 2 ^ i := by
  obtain ⟨n, rfl⟩ : ∃ n : Nat, a = n := ⟨a.toNat, by omega⟩
  have h2 : ((2 ^ i : Nat) : Int) = (2 : Int) ^ i := by simp
  have hn : n < 2 ^ i := by omega
  unfold bor
  rw [← h2, Int.toNat_natCast, Int.toNat_natCast]
  have := Nat.two_pow_add_eq_or_of_lt hn 1
  rw [Nat.mul_one] at this
  rw [Nat.or_comm, ← this]; omega

def bytes (l : List Int) : Prop := ∀ i, i < l.length → 0 ≤ l.getD i 0 ∧ l.getD i 0 ≤ 255
end Go.Proofs.Ytanhalcbghbpaaa
