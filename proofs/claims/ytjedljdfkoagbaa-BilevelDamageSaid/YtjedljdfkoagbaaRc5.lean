/- Range coder: a bit is decoded. -/
import Derived.Test.YtjedljdfkoagbaaRc8
import Derived.Test.YtjedljdfkoagbaaGo
namespace Go.Proofs.Ytjedljdfkoagbaa
open Go Go.Lite
set_option linter.unusedVariables false
set_option linter.unusedSimpArgs false
set_option maxRecDepth 100000
set_option maxHeartbeats 4000000
-- @simp rdi rdy

theorem or8 {a b : Int} (ha : 0 ≤ a) (hb : 0 ≤ b ∧ b ≤ 255) : bor (a * 256 % 4294967296) b = a * 256 % 4294967296 + b := by
  obtain ⟨x, hx⟩ : ∃ x : Nat, a * 256 % 4294967296 = ((2 ^ 8 * x : Nat) : Int) := ⟨(a % 16777216).toNat, by omega⟩
  obtain ⟨y, rfl⟩ : ∃ y : Nat, b = (y : Int) := ⟨b.toNat, by omega⟩
  rw [hx]
  have h := Nat.two_pow_add_eq_or_of_lt (i := 8) (b := y) (by omega) x
  unfold bor
  rw [Int.toNat_natCast, Int.toNat_natCast, ← h]
  simp

theorem get_c (cs : Cx) (w b co : Int) (i : Nat) (q : List Int) (p : Nat) (hi : i < cs.length) (hx : CxOk cs) (hc : cs.length ≤ 4096) (hw : 16777216 ≤ w ∧ w < 4294967296) (hb : 0 ≤ b ∧ b < 1048576) (hco : 0 ≤ co ∧ co < 4294967296)
    (hq : q.length ≤ 2097152) (hqb : ∀ i, i < q.length → 0 ≤ q.getD i 0 ∧ q.getD i 0 ≤ 255) (hp : p ≤ 2097152) :
    TC R Try.prog __rangecoder_Decoder__Get_f [.ptr 0 0, .int .i64 i] (deR cs w b co q p)
      (fun v X => v = .tup [.int .i64 (gB cs w i co), .int .i64 0] ∧ X = if pW cs w i (gB cs w i co) < 16777216 then deR (lrnC cs i (gB cs w i co)) (pW cs w i (gB cs w i co) * 256) (b + 1) (gC cs w i co * 256 % 4294967296 + q.getD p 0) q (p + 1)
        else deR (lrnC cs i (gB cs w i co)) (pW cs w i (gB cs w i co)) (b + 1) (gC cs w i co) q p) := by
  have zb := rspl_bd hx hi hw.1
  have cc : cut cs 0 cs.length = cs := cut_all rfl
  have hmp : min p q.length ≤ q.length := by omega
  have c1 : TC R Try.prog __rangecoder_model__check_f [.pel [.lst E2w (cut cs 0 cs.length), .int .u32 w, .int .i64 b, .int .u32 co, .lst Ey (cut q (min p q.length) (q.length - p))], .int .i64 i] [] (fun v X => v = .int .i64 0 ∧ X = []) := by
    have := rcheck_d cs w b i co (cut q (min p q.length) (q.length - p)) hc
    rw [if_pos (by omega), if_pos hb.2] at this
    rw [cc]; exact this
  have c2 : TC R Try.prog __rangecoder_model__split_f [.pel [.lst E2w (cut cs 0 cs.length), .int .u32 w, .int .i64 b, .int .u32 co, .lst Ey (cut q (min p q.length) (q.length - p))], .int .i64 i] [] (fun v X => v = .int .u32 (rspl cs i w) ∧ X = []) := by
    have := split_d cs w b i co (cut q (min p q.length) (q.length - p)) hi hx hw
    rw [cc]; exact this
  have qb0 : 0 ≤ q.getD p 0 ∧ q.getD p 0 ≤ 255 := by
    rcases Nat.lt_or_ge p q.length with h1 | h1
    · exact hqb p h1
    · have h2 : q.getD p 0 = 0 := by rw [List.getD_eq_getElem?_getD, List.getElem?_eq_none h1]; rfl
      omega
  refine tc env __rangecoder_Decoder__Get_s (by rfl) ?_
  dsimp only [__rangecoder_Decoder__Get_c, deR]
  by_cases hz : co < rspl cs i w
  · have g1 : gB cs w i co = 0 := if_pos hz
    have g2 : gC cs w i co = co := if_pos hz
    have g3 : pW cs w i 0 = rspl cs i w := if_pos rfl
    have e8 := or8 (a := co) (b := q.getD p 0) (by omega) qb0
    rw [g1, g2, g3]
    repeat' (first
      | ((with_reducible refine TOps.any ?_); refine TOps.callE env (by rfl) (by rfl) (by rfl) ?_ (c1) (by rfl) ?_)
      | ((with_reducible refine TOps.any ?_); refine TOps.callE env (by rfl) (by rfl) (by rfl) ?_ (c2) (by rfl) ?_)
      | refine GZp_i_y ?_ ?_ ?_ ?_ ?_ ?_ ?_ ?_
      | with_reducible first | exact BzZq.mk | refine Tw.ret ?_ | refine ImZq.i fun h => ?_ | refine IkZq.i fun hk => ?_)
    by_cases hk : (rspl cs i w) < 16777216
    · rw [if_pos hk]
      refine Tw.loopK [0, 1, 8] (fun f : Bool => True) (fun f => f.toNat) (fun _ => [])
        (fun f => match f with
          | true => [some (.cells [.sla 2 1 0 cs.length, .int .u32 (rspl cs i w), .int .i64 b, .int .u32 co, .sla 1 2 (min p q.length) (q.length - p)]), some (.arr E2w cs), some (.arr Ey q)]
          | false => [some (.cells [.sla 2 1 0 cs.length, .int .u32 ((rspl cs i w) * 256), .int .i64 b, .int .u32 (co * 256 % 4294967296 + q.getD p 0), .sla 1 2 (min (p + 1) q.length) (q.length - (p + 1))]), some (.arr E2w cs), some (.arr Ey q)])
        ⟨true, trivial, TWk.fcanon env [some 0, some 1, some 2] (by rfl) ?_⟩ (fun f _ => ?_)
      · repeat' (first
          | with_reducible first | exact Conj.nil | refine Conj.cons rfl ?_ | refine Conj.same ?_ | refine Conj.ask ?_ ?_
          | ((with_reducible refine Due.mk ?_); (first | with_reducible rfl | omega | assumption | decide | ((try simp only [goS] at *) <;> (try intro h) <;> (try intro h') <;> (try simp only [goS] at *) <;> (try simp only [rdi, rdy, Int.toNat_natCast, Nat.add_zero] at *) <;> (try simp only [rng]) <;> (first | assumption | omega)) | (exact due_app0 (by omega)) | (exact due_app (by omega)) | (intros; simp; done) | (intros; simp; omega)))
          | with_reducible refine Due.mk ?_
          | omega)
      cases f
      · repeat' (first
          | ((with_reducible refine TOps.any ?_); refine TOps.callHE env [0, 1, 2] (learn_d cs ((rspl cs i w) * 256) b i 0 (co * 256 % 4294967296 + q.getD p 0) (min (p + 1) q.length) (q.length - (p + 1)) q hi hx (by omega) hb) (by rfl) (by rfl) (by rfl) (by rfl) (by rfl) (by rfl) (by repeat' (first | exact trivial | refine ⟨rfl, ?_⟩)) ?_)
          | refine GZp_i_y ?_ ?_ ?_ ?_ ?_ ?_ ?_ ?_
          | with_reducible first | exact BzZq.mk | refine Tw.ret ?_ | refine ImZq.i fun h => ?_ | refine IkZq.i fun hk => ?_)
        refine ⟨rfl, ?_⟩
        simp only [lrn_len]
      · repeat' (first
          | ((with_reducible refine Tw.regdT env [(4, 7)] ?tolA ?_); (case tolA => rfl))
          | ((with_reducible refine TDr.nil ⟨by kernel_rfl, ?tolA, by kernel_rfl, ?_⟩); (case tolA => exact ⟨⟨_, _, _, _, _, rfl, rfl, rfl, rfl, rfl, rfl, rfl, rfl, rfl, rfl, rfl, rfl⟩, trivial⟩))
          | ((with_reducible refine TDr.any ?_); refine TDr.callHD env [0, 1, 2] (next_c cs (rspl cs i w) b co q p hq hqb) (by first | rfl | assumption) (by rfl) (by rfl) (by rfl) (by rfl) (by rfl) (fun _ => by rfl) (fun _ => by repeat' (first | exact trivial | refine ⟨rfl, ?_⟩)) (fun _ => by rfl) (fun _ => by rfl) ?_)
          | with_reducible first | refine Tw.seq ?_ | refine Tw.reg ?_ | refine Tw.block ?_ | refine Tw.scope ?_ | refine Tw.skip ?_ | refine Tw.exit ?_ | refine Tw.ret ?_ | refine seqN ?_ | refine seqR ?_ | refine seqE ?_ | refine rndN ?_ | refine blkN ?_ | refine blkR ?_ | refine blkE1 ?_ | refine blkE0 (by kernel_rfl) ?_ | refine scpN ?_ | refine scpR ?_ | refine scpE ?_ | refine TOps.nil ?_ | exact Conj.nil | refine Conj.cons rfl ?_ | refine Conj.same ?_ | refine Conj.ask ?_ ?_ | refine Tw.regd env ?_ | refine TDr.nil ⟨by kernel_rfl, ?_⟩
          | ((with_reducible refine TOps.any ?_); first | refine TOps.frunP env (by rfl) (by rfl) ?_ ?_ | (refine TOps.known (by rfl) ?_; refine TOps.strip env (by rfl) (by rfl) ?_ ?_) | refine TOps.on (by rfl) (by rfl) ?_)
          | ((with_reducible refine TDr.any ?_); refine TDr.frunP env (by rfl) (by rfl) ?_ ?_)
          | ((with_reducible refine Tw.any ?_); first | refine Tw.condT (by rfl) ?_ | refine Tw.condF (by rfl) ?_)
          | ((first | ((with_reducible refine TOps.any ?_); (fail_if_success refine TOps.known (by rfl) ?_); refine TOps.ask (by rfl) (fun h => ?_) (fun h => ?_)) | ((with_reducible refine TDr.any ?_); (fail_if_success refine TDr.known (by first | rfl | assumption) ?_); refine TDr.ask (by rfl) (fun h hk => ?_) (fun h => ?_)) | ((with_reducible refine Tw.any ?_); refine Tw.cond (by rfl) (fun h => ?_) (fun h => ?_))) <;> (try simp only [goS] at h) <;> (try simp only [rdi, rdy, Int.toNat_natCast, Nat.add_zero] at h) <;> (try (exfalso; (try simp only [goP, reduceCtorEq] at h) <;> (first | assumption | omega | contradiction | (rcases h with ⟨_, _⟩ <;> first | contradiction | omega) | (rcases h with h | h <;> first | contradiction | omega)))))
          | ((with_reducible refine tret.any ?_); first | refine tret.ok (by rfl) ?_ | refine tret.okN (by rfl) ?_)
          | ((with_reducible refine Due.mk ?_); (first | with_reducible rfl | omega | assumption | decide | ((try simp only [goS] at *) <;> (try intro h) <;> (try intro h') <;> (try simp only [goS] at *) <;> (try simp only [rdi, rdy, Int.toNat_natCast, Nat.add_zero] at *) <;> (try simp only [rng]) <;> (first | assumption | omega)) | (exact due_app0 (by omega)) | (exact due_app (by omega)) | (intros; simp; done) | (intros; simp; omega)))
          | with_reducible refine Due.mk ?_
          | omega)
        refine ⟨false, trivial, by decide, TWk.fcanon env [some 0, some 1, some 2] (by rfl) ?_⟩
        repeat' (first
          | exact e8
          | exact (or8 (by omega) qb0).symm
          | with_reducible first | exact Conj.nil | refine Conj.cons rfl ?_ | refine Conj.same ?_ | refine Conj.ask ?_ ?_
          | ((with_reducible refine Due.mk ?_); (first | with_reducible rfl | omega | assumption | decide | ((try simp only [goS] at *) <;> (try intro h) <;> (try intro h') <;> (try simp only [goS] at *) <;> (try simp only [rdi, rdy, Int.toNat_natCast, Nat.add_zero] at *) <;> (try simp only [rng]) <;> (first | assumption | omega)) | (exact due_app0 (by omega)) | (exact due_app (by omega)) | (intros; simp; done) | (intros; simp; omega)))
          | with_reducible refine Due.mk ?_
          | omega)
    · rw [if_neg hk]
      refine Tw.loopK [0, 1, 8] (fun _ : Unit => True) (fun _ => 0) (fun _ => [])
        (fun f => [some (.cells [.sla 2 1 0 cs.length, .int .u32 (rspl cs i w), .int .i64 b, .int .u32 co, .sla 1 2 (min p q.length) (q.length - p)]), some (.arr E2w cs), some (.arr Ey q)])
        ⟨(), trivial, TWk.fcanon env [some 0, some 1, some 2] (by rfl) ?_⟩ (fun f _ => ?_)
      · repeat' (first
          | with_reducible first | exact Conj.nil | refine Conj.cons rfl ?_ | refine Conj.same ?_ | refine Conj.ask ?_ ?_
          | ((with_reducible refine Due.mk ?_); (first | with_reducible rfl | omega | assumption | decide | ((try simp only [goS] at *) <;> (try intro h) <;> (try intro h') <;> (try simp only [goS] at *) <;> (try simp only [rdi, rdy, Int.toNat_natCast, Nat.add_zero] at *) <;> (try simp only [rng]) <;> (first | assumption | omega)) | (exact due_app0 (by omega)) | (exact due_app (by omega)) | (intros; simp; done) | (intros; simp; omega)))
          | with_reducible refine Due.mk ?_
          | omega)
      repeat' (first
        | ((with_reducible refine TOps.any ?_); refine TOps.callHE env [0, 1, 2] (learn_d cs (rspl cs i w) b i 0 co (min p q.length) (q.length - p) q hi hx (by omega) hb) (by rfl) (by rfl) (by rfl) (by rfl) (by rfl) (by rfl) (by repeat' (first | exact trivial | refine ⟨rfl, ?_⟩)) ?_)
        | refine GZp_i_y ?_ ?_ ?_ ?_ ?_ ?_ ?_ ?_
        | with_reducible first | exact BzZq.mk | refine Tw.ret ?_ | refine ImZq.i fun h => ?_ | refine IkZq.i fun hk => ?_)
      refine ⟨rfl, ?_⟩
      simp only [lrn_len]
  · have g1 : gB cs w i co = 1 := if_neg hz
    have g2 : gC cs w i co = co - rspl cs i w := if_neg hz
    have g3 : pW cs w i 1 = w - rspl cs i w := if_neg (by omega)
    have e8 := or8 (a := co - rspl cs i w) (b := q.getD p 0) (by omega) qb0
    have w1 : w - rspl cs i w = (w - rspl cs i w) % 4294967296 := by omega
    have w2 : co - rspl cs i w = (co - rspl cs i w) % 4294967296 := by omega
    rw [g1, g2, g3]
    repeat' (first
      | ((with_reducible refine TOps.any ?_); refine TOps.callE env (by rfl) (by rfl) (by rfl) ?_ (c1) (by rfl) ?_)
      | ((with_reducible refine TOps.any ?_); refine TOps.callE env (by rfl) (by rfl) (by rfl) ?_ (c2) (by rfl) ?_)
      | refine GZp_i_y ?_ ?_ ?_ ?_ ?_ ?_ ?_ ?_
      | with_reducible first | exact BzZq.mk | refine Tw.ret ?_ | refine ImZq.i fun h => ?_ | refine IkZq.i fun hk => ?_)
    by_cases hk : (w - rspl cs i w) < 16777216
    · rw [if_pos hk]
      refine Tw.loopK [0, 1, 8] (fun f : Bool => True) (fun f => f.toNat) (fun _ => [])
        (fun f => match f with
          | true => [some (.cells [.sla 2 1 0 cs.length, .int .u32 (w - rspl cs i w), .int .i64 b, .int .u32 (co - rspl cs i w), .sla 1 2 (min p q.length) (q.length - p)]), some (.arr E2w cs), some (.arr Ey q)]
          | false => [some (.cells [.sla 2 1 0 cs.length, .int .u32 ((w - rspl cs i w) * 256), .int .i64 b, .int .u32 ((co - rspl cs i w) * 256 % 4294967296 + q.getD p 0), .sla 1 2 (min (p + 1) q.length) (q.length - (p + 1))]), some (.arr E2w cs), some (.arr Ey q)])
        ⟨true, trivial, TWk.fcanon env [some 0, some 1, some 2] (by rfl) ?_⟩ (fun f _ => ?_)
      · repeat' (first
          | exact w1
          | exact w2
          | with_reducible first | exact Conj.nil | refine Conj.cons rfl ?_ | refine Conj.same ?_ | refine Conj.ask ?_ ?_
          | ((with_reducible refine Due.mk ?_); (first | with_reducible rfl | omega | assumption | decide | ((try simp only [goS] at *) <;> (try intro h) <;> (try intro h') <;> (try simp only [goS] at *) <;> (try simp only [rdi, rdy, Int.toNat_natCast, Nat.add_zero] at *) <;> (try simp only [rng]) <;> (first | assumption | omega)) | (exact due_app0 (by omega)) | (exact due_app (by omega)) | (intros; simp; done) | (intros; simp; omega)))
          | with_reducible refine Due.mk ?_
          | omega)
      cases f
      · repeat' (first
          | ((with_reducible refine TOps.any ?_); refine TOps.callHE env [0, 1, 2] (learn_d cs ((w - rspl cs i w) * 256) b i 1 ((co - rspl cs i w) * 256 % 4294967296 + q.getD p 0) (min (p + 1) q.length) (q.length - (p + 1)) q hi hx (by omega) hb) (by rfl) (by rfl) (by rfl) (by rfl) (by rfl) (by rfl) (by repeat' (first | exact trivial | refine ⟨rfl, ?_⟩)) ?_)
          | refine GZp_i_y ?_ ?_ ?_ ?_ ?_ ?_ ?_ ?_
          | with_reducible first | exact BzZq.mk | refine Tw.ret ?_ | refine ImZq.i fun h => ?_ | refine IkZq.i fun hk => ?_)
        refine ⟨rfl, ?_⟩
        simp only [lrn_len]
      · repeat' (first
          | ((with_reducible refine Tw.regdT env [(4, 7)] ?tolA ?_); (case tolA => rfl))
          | ((with_reducible refine TDr.nil ⟨by kernel_rfl, ?tolA, by kernel_rfl, ?_⟩); (case tolA => exact ⟨⟨_, _, _, _, _, rfl, rfl, rfl, rfl, rfl, rfl, rfl, rfl, rfl, rfl, rfl, rfl⟩, trivial⟩))
          | ((with_reducible refine TDr.any ?_); refine TDr.callHD env [0, 1, 2] (next_c cs (w - rspl cs i w) b (co - rspl cs i w) q p hq hqb) (by first | rfl | assumption) (by rfl) (by rfl) (by rfl) (by rfl) (by rfl) (fun _ => by rfl) (fun _ => by repeat' (first | exact trivial | refine ⟨rfl, ?_⟩)) (fun _ => by rfl) (fun _ => by rfl) ?_)
          | with_reducible first | refine Tw.seq ?_ | refine Tw.reg ?_ | refine Tw.block ?_ | refine Tw.scope ?_ | refine Tw.skip ?_ | refine Tw.exit ?_ | refine Tw.ret ?_ | refine seqN ?_ | refine seqR ?_ | refine seqE ?_ | refine rndN ?_ | refine blkN ?_ | refine blkR ?_ | refine blkE1 ?_ | refine blkE0 (by kernel_rfl) ?_ | refine scpN ?_ | refine scpR ?_ | refine scpE ?_ | refine TOps.nil ?_ | exact Conj.nil | refine Conj.cons rfl ?_ | refine Conj.same ?_ | refine Conj.ask ?_ ?_ | refine Tw.regd env ?_ | refine TDr.nil ⟨by kernel_rfl, ?_⟩
          | ((with_reducible refine TOps.any ?_); first | refine TOps.frunP env (by rfl) (by rfl) ?_ ?_ | (refine TOps.known (by rfl) ?_; refine TOps.strip env (by rfl) (by rfl) ?_ ?_) | refine TOps.on (by rfl) (by rfl) ?_)
          | ((with_reducible refine TDr.any ?_); refine TDr.frunP env (by rfl) (by rfl) ?_ ?_)
          | ((with_reducible refine Tw.any ?_); first | refine Tw.condT (by rfl) ?_ | refine Tw.condF (by rfl) ?_)
          | ((first | ((with_reducible refine TOps.any ?_); (fail_if_success refine TOps.known (by rfl) ?_); refine TOps.ask (by rfl) (fun h => ?_) (fun h => ?_)) | ((with_reducible refine TDr.any ?_); (fail_if_success refine TDr.known (by first | rfl | assumption) ?_); refine TDr.ask (by rfl) (fun h hk => ?_) (fun h => ?_)) | ((with_reducible refine Tw.any ?_); refine Tw.cond (by rfl) (fun h => ?_) (fun h => ?_))) <;> (try simp only [goS] at h) <;> (try simp only [rdi, rdy, Int.toNat_natCast, Nat.add_zero] at h) <;> (try (exfalso; (try simp only [goP, reduceCtorEq] at h) <;> (first | assumption | omega | contradiction | (rcases h with ⟨_, _⟩ <;> first | contradiction | omega) | (rcases h with h | h <;> first | contradiction | omega)))))
          | ((with_reducible refine tret.any ?_); first | refine tret.ok (by rfl) ?_ | refine tret.okN (by rfl) ?_)
          | ((with_reducible refine Due.mk ?_); (first | with_reducible rfl | omega | assumption | decide | ((try simp only [goS] at *) <;> (try intro h) <;> (try intro h') <;> (try simp only [goS] at *) <;> (try simp only [rdi, rdy, Int.toNat_natCast, Nat.add_zero] at *) <;> (try simp only [rng]) <;> (first | assumption | omega)) | (exact due_app0 (by omega)) | (exact due_app (by omega)) | (intros; simp; done) | (intros; simp; omega)))
          | with_reducible refine Due.mk ?_
          | omega)
        refine ⟨false, trivial, by decide, TWk.fcanon env [some 0, some 1, some 2] (by rfl) ?_⟩
        repeat' (first
          | exact e8
          | exact (or8 (by omega) qb0).symm
          | with_reducible first | exact Conj.nil | refine Conj.cons rfl ?_ | refine Conj.same ?_ | refine Conj.ask ?_ ?_
          | ((with_reducible refine Due.mk ?_); (first | with_reducible rfl | omega | assumption | decide | ((try simp only [goS] at *) <;> (try intro h) <;> (try intro h') <;> (try simp only [goS] at *) <;> (try simp only [rdi, rdy, Int.toNat_natCast, Nat.add_zero] at *) <;> (try simp only [rng]) <;> (first | assumption | omega)) | (exact due_app0 (by omega)) | (exact due_app (by omega)) | (intros; simp; done) | (intros; simp; omega)))
          | with_reducible refine Due.mk ?_
          | omega)
    · rw [if_neg hk]
      refine Tw.loopK [0, 1, 8] (fun _ : Unit => True) (fun _ => 0) (fun _ => [])
        (fun f => [some (.cells [.sla 2 1 0 cs.length, .int .u32 (w - rspl cs i w), .int .i64 b, .int .u32 (co - rspl cs i w), .sla 1 2 (min p q.length) (q.length - p)]), some (.arr E2w cs), some (.arr Ey q)])
        ⟨(), trivial, TWk.fcanon env [some 0, some 1, some 2] (by rfl) ?_⟩ (fun f _ => ?_)
      · repeat' (first
          | exact w1
          | exact w2
          | with_reducible first | exact Conj.nil | refine Conj.cons rfl ?_ | refine Conj.same ?_ | refine Conj.ask ?_ ?_
          | ((with_reducible refine Due.mk ?_); (first | with_reducible rfl | omega | assumption | decide | ((try simp only [goS] at *) <;> (try intro h) <;> (try intro h') <;> (try simp only [goS] at *) <;> (try simp only [rdi, rdy, Int.toNat_natCast, Nat.add_zero] at *) <;> (try simp only [rng]) <;> (first | assumption | omega)) | (exact due_app0 (by omega)) | (exact due_app (by omega)) | (intros; simp; done) | (intros; simp; omega)))
          | with_reducible refine Due.mk ?_
          | omega)
      repeat' (first
        | ((with_reducible refine TOps.any ?_); refine TOps.callHE env [0, 1, 2] (learn_d cs (w - rspl cs i w) b i 1 (co - rspl cs i w) (min p q.length) (q.length - p) q hi hx (by omega) hb) (by rfl) (by rfl) (by rfl) (by rfl) (by rfl) (by rfl) (by repeat' (first | exact trivial | refine ⟨rfl, ?_⟩)) ?_)
        | refine GZp_i_y ?_ ?_ ?_ ?_ ?_ ?_ ?_ ?_
        | with_reducible first | exact BzZq.mk | refine Tw.ret ?_ | refine ImZq.i fun h => ?_ | refine IkZq.i fun hk => ?_)
      refine ⟨rfl, ?_⟩
      simp only [lrn_len]

theorem newDec_c (cs : Cx) (h0 : Cx0 cs) (q : List Int) (hn : 1 ≤ cs.length ∧ cs.length ≤ 4096) (hq : q.length ≤ 2097152) (hqb : ∀ i, i < q.length → 0 ≤ q.getD i 0 ∧ q.getD i 0 ≤ 255) :
    TC R Try.prog rangecoder_NewDecoder_f [.lst Ey q, .int .i64 cs.length] [] (fun v X => v = .tup [.ptr 0 0, .int .i64 0] ∧ X = deR cs 4294967295 0 (val q 4) q 4) := by
  have bc := begin_z cs h0 hn
  have qb : ∀ p, 0 ≤ q.getD p 0 ∧ q.getD p 0 ≤ 255 := fun p => by
    rcases Nat.lt_or_ge p q.length with h1 | h1
    · exact hqb p h1
    · have h2 : q.getD p 0 = 0 := by rw [List.getD_eq_getElem?_getD, List.getElem?_eq_none h1]; rfl
      omega
  have v0 : val q 0 = 0 := rfl
  have v1 := qb 0
  have v2 := qb 1
  have v3 := qb 2
  have v4 := qb 3
  have vb : ∀ k, k ≤ 4 → 0 ≤ val q k ∧ val q k < 256 ^ k := fun k => by
    induction k with
    | zero => intro _; simp [val]
    | succ k ih =>
      intro hk
      have i1 := ih (by omega)
      have i2 := qb k
      have i3 : (256 : Int) ^ (k + 1) = 256 ^ k * 256 := Int.pow_succ ..
      simp only [val]
      constructor <;> omega
  refine tc env rangecoder_NewDecoder_s (by rfl) ?_
  dsimp only [rangecoder_NewDecoder_c]
  repeat' (first
    | ((with_reducible refine TOps.any ?_); refine TOps.callV env (by rfl) (by rfl) (by rfl) (bc) ?_)
    | refine GZp_i_y ?_ ?_ ?_ ?_ ?_ ?_ ?_ ?_
    | with_reducible first | exact BzZq.mk | refine Tw.ret ?_ | refine ImZq.i fun h => ?_ | refine IkZq.i fun hk => ?_)
  refine Tw.loopK [] (fun k : Nat => k ≤ 4) (fun k => 4 - k) (fun k => [(25, .int .i64 k), (8, .ptr 0 0)])
    (fun k => deR cs 4294967295 0 (val q k) q k) ⟨0, by omega, TWk.fcanon env [some 3, some 0, some 2] (by rfl) ?_⟩ (fun k hk => ?_)
  · repeat' (first
      | with_reducible first | exact Conj.nil | refine Conj.cons rfl ?_ | refine Conj.same ?_ | refine Conj.ask ?_ ?_
      | ((with_reducible refine Due.mk ?_); (first | with_reducible rfl | omega | assumption | decide | ((try simp only [goS] at *) <;> (try intro h) <;> (try intro h') <;> (try simp only [goS] at *) <;> (try simp only [rdi, rdy, Int.toNat_natCast, Nat.add_zero] at *) <;> (try simp only [rng]) <;> (first | assumption | omega)) | (exact due_app0 (by omega)) | (exact due_app (by omega)) | (intros; simp; done) | (intros; simp; omega)))
      | with_reducible refine Due.mk ?_
      | omega)
  dsimp only [deR]
  have vk := vb k hk
  rcases Nat.lt_or_ge k 4 with h4 | h4
  · have v5 : val q k < 16777216 := by
      have := vk.2
      have h3 : (256 : Nat) ^ k ≤ 256 ^ 3 := Nat.pow_le_pow_right (by decide) (by omega)
      have h5 : ((256 ^ k : Nat) : Int) = (256 : Int) ^ k := by simp
      omega
    have e8 : val q (k + 1) = bor (val q k * 256 % 4294967296) (q.getD k 0) := by
      rw [or8 vk.1 (qb k), val]; omega
    have qk := qb k
    repeat' (first
      | ((with_reducible refine Tw.regdT env [(4, 7)] ?tolA ?_); (case tolA => rfl))
      | ((with_reducible refine TDr.nil ⟨by kernel_rfl, ?tolA, by kernel_rfl, ?_⟩); (case tolA => exact ⟨⟨_, _, _, _, _, rfl, rfl, rfl, rfl, rfl, rfl, rfl, rfl, rfl, rfl, rfl, rfl⟩, trivial⟩))
      | ((with_reducible refine TDr.any ?_); refine TDr.callHD env [0, 1, 2] (next_c cs 4294967295 0 (val q k) q k hq hqb) (by first | rfl | assumption) (by rfl) (by rfl) (by rfl) (by rfl) (by rfl) (fun _ => by rfl) (fun _ => by repeat' (first | exact trivial | refine ⟨rfl, ?_⟩)) (fun _ => by rfl) (fun _ => by rfl) ?_)
      | with_reducible first | refine Tw.seq ?_ | refine Tw.reg ?_ | refine Tw.block ?_ | refine Tw.scope ?_ | refine Tw.skip ?_ | refine Tw.exit ?_ | refine Tw.ret ?_ | refine seqN ?_ | refine seqR ?_ | refine seqE ?_ | refine rndN ?_ | refine blkN ?_ | refine blkR ?_ | refine blkE1 ?_ | refine blkE0 (by kernel_rfl) ?_ | refine scpN ?_ | refine scpR ?_ | refine scpE ?_ | refine TOps.nil ?_ | exact Conj.nil | refine Conj.cons rfl ?_ | refine Conj.same ?_ | refine Conj.ask ?_ ?_ | refine Tw.regd env ?_ | refine TDr.nil ⟨by kernel_rfl, ?_⟩
      | ((with_reducible refine TOps.any ?_); first | refine TOps.frunP env (by rfl) (by rfl) ?_ ?_ | (refine TOps.known (by rfl) ?_; refine TOps.strip env (by rfl) (by rfl) ?_ ?_) | refine TOps.on (by rfl) (by rfl) ?_)
      | ((with_reducible refine TDr.any ?_); refine TDr.frunP env (by rfl) (by rfl) ?_ ?_)
      | ((with_reducible refine Tw.any ?_); first | refine Tw.condT (by rfl) ?_ | refine Tw.condF (by rfl) ?_)
      | ((first | ((with_reducible refine TOps.any ?_); (fail_if_success refine TOps.known (by rfl) ?_); refine TOps.ask (by rfl) (fun h => ?_) (fun h => ?_)) | ((with_reducible refine TDr.any ?_); (fail_if_success refine TDr.known (by first | rfl | assumption) ?_); refine TDr.ask (by rfl) (fun h hk => ?_) (fun h => ?_)) | ((with_reducible refine Tw.any ?_); refine Tw.cond (by rfl) (fun h => ?_) (fun h => ?_))) <;> (try simp only [goS] at h) <;> (try simp only [rdi, rdy, Int.toNat_natCast, Nat.add_zero] at h) <;> (try (exfalso; (try simp only [goP, reduceCtorEq] at h) <;> (first | assumption | omega | contradiction | (rcases h with ⟨_, _⟩ <;> first | contradiction | omega) | (rcases h with h | h <;> first | contradiction | omega)))))
      | ((with_reducible refine tret.any ?_); first | refine tret.ok (by rfl) ?_ | refine tret.okN (by rfl) ?_)
      | ((with_reducible refine Due.mk ?_); (first | with_reducible rfl | omega | assumption | decide | ((try simp only [goS] at *) <;> (try intro h) <;> (try intro h') <;> (try simp only [goS] at *) <;> (try simp only [rdi, rdy, Int.toNat_natCast, Nat.add_zero] at *) <;> (try simp only [rng]) <;> (first | assumption | omega)) | (exact due_app0 (by omega)) | (exact due_app (by omega)) | (intros; simp; done) | (intros; simp; omega)))
      | with_reducible refine Due.mk ?_
      | omega)
    refine ⟨k + 1, by omega, by omega, TWk.fcanon env [some 0, some 1, some 2] (by rfl) ?_⟩
    repeat' (first
      | exact e8
      | with_reducible first | exact Conj.nil | refine Conj.cons rfl ?_ | refine Conj.same ?_ | refine Conj.ask ?_ ?_
      | ((with_reducible refine Due.mk ?_); (first | with_reducible rfl | omega | assumption | decide | ((try simp only [goS] at *) <;> (try intro h) <;> (try intro h') <;> (try simp only [goS] at *) <;> (try simp only [rdi, rdy, Int.toNat_natCast, Nat.add_zero] at *) <;> (try simp only [rng]) <;> (first | assumption | omega)) | (exact due_app0 (by omega)) | (exact due_app (by omega)) | (intros; simp; done) | (intros; simp; omega)))
      | with_reducible refine Due.mk ?_
      | omega)
  · obtain rfl : k = 4 := by omega
    repeat' (first
      | refine GZp_i_y ?_ ?_ ?_ ?_ ?_ ?_ ?_ ?_
      | with_reducible first | exact BzZq.mk | refine Tw.ret ?_ | refine ImZq.i fun h => ?_ | refine IkZq.i fun hk => ?_)
    exact ⟨rfl, rfl⟩
end Go.Proofs.Ytjedljdfkoagbaa
