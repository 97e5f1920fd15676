/- Range coder: a list of bits is decoded (given Get and NewDecoder). -/
import Derived.Test.YthnfbdihihhoiaaRc7
namespace Go.Proofs.Ythnfbdihihhoiaa
open Go Go.Lite
set_option linter.unusedVariables false
set_option linter.unusedSimpArgs false
set_option maxRecDepth 100000
set_option maxHeartbeats 4000000
-- @simp rdi rdy

def gB (cs : Cx) (w : Int) (i : Nat) (co : Int) : Nat := if co < rspl cs i w then 0 else 1
def gC (cs : Cx) (w : Int) (i : Nat) (co : Int) : Int := if co < rspl cs i w then co else co - rspl cs i w
/-- The number that the first k bytes are, zeros behind them. -/
def val (q : List Int) : Nat → Int
  | 0 => 0
  | k + 1 => val q k * 256 + q.getD k 0

/-- What is to be shown of Get. -/
def GetC : Prop := ∀ (cs : Cx) (w b co : Int) (i : Nat) (q : List Int) (p : Nat) (hi : i < cs.length) (hx : CxOk cs) (hc : cs.length ≤ 4096) (hw : 16777216 ≤ w ∧ w < 4294967296) (hb : 0 ≤ b ∧ b < 1048576) (hco : 0 ≤ co ∧ co < 4294967296)
    (hq : q.length ≤ 2097152) (hqb : ∀ i, i < q.length → 0 ≤ q.getD i 0 ∧ q.getD i 0 ≤ 255) (hp : p ≤ 2097152),
    TC R Try.prog __rangecoder_Decoder__Get_f [.ptr 0 0, .int .i64 i] (deR cs w b co q p)
      (fun v X => v = .tup [.int .i64 (gB cs w i co), .int .i64 0] ∧ X = if pW cs w i (gB cs w i co) < 16777216 then deR (lrnC cs i (gB cs w i co)) (pW cs w i (gB cs w i co) * 256) (b + 1) (gC cs w i co * 256 % 4294967296 + q.getD p 0) q (p + 1)
        else deR (lrnC cs i (gB cs w i co)) (pW cs w i (gB cs w i co)) (b + 1) (gC cs w i co) q p)
/-- What is to be shown of NewDecoder. -/
def NewDecC : Prop := ∀ (cs : Cx) (h0 : Cx0 cs) (q : List Int) (hn : 1 ≤ cs.length ∧ cs.length ≤ 4096) (hq : q.length ≤ 2097152) (hqb : ∀ i, i < q.length → 0 ≤ q.getD i 0 ∧ q.getD i 0 ≤ 255),
    TC R Try.prog rangecoder_NewDecoder_f [.lst Ey q, .int .i64 cs.length] [] (fun v X => v = .tup [.ptr 0 0, .int .i64 0] ∧ X = deR cs 4294967295 0 (val q 4) q 4)

/-- A decoder's state. -/
structure DS where
  cs : Cx
  w : Int
  co : Int
  p : Nat
def dbit (s : DS) (i : Nat) : Nat := gB s.cs s.w i s.co
def dstep (q : List Int) (s : DS) (i : Nat) : DS :=
  if pW s.cs s.w i (dbit s i) < 16777216 then ⟨lrnC s.cs i (dbit s i), pW s.cs s.w i (dbit s i) * 256, gC s.cs s.w i s.co * 256 % 4294967296 + q.getD s.p 0, s.p + 1⟩
  else ⟨lrnC s.cs i (dbit s i), pW s.cs s.w i (dbit s i), gC s.cs s.w i s.co, s.p⟩
def dRun (N : Nat) (q : List Int) (ci : Nat → Nat) : Nat → DS
  | 0 => ⟨List.replicate N (0, 0), 4294967295, val q 4, 4⟩
  | k + 1 => dstep q (dRun N q ci k) (ci k)
structure DSOk (N k : Nat) (s : DS) : Prop where
  len : s.cs.length = N
  cx : CxOk s.cs
  w : 16777216 ≤ s.w ∧ s.w < 4294967296
  co : 0 ≤ s.co ∧ s.co < 4294967296
  p : s.p ≤ k + 4
theorem byte_at {q : List Int} (hqb : ∀ i, i < q.length → 0 ≤ q.getD i 0 ∧ q.getD i 0 ≤ 255) (p : Nat) : 0 ≤ q.getD p 0 ∧ q.getD p 0 ≤ 255 := by
  rcases Nat.lt_or_ge p q.length with h1 | h1
  · exact hqb p h1
  · have h2 : q.getD p 0 = 0 := by rw [List.getD_eq_getElem?_getD, List.getElem?_eq_none h1]; rfl
    omega
theorem gB_le {cs : Cx} {w : Int} {i : Nat} {co : Int} : gB cs w i co ≤ 1 := by unfold gB; split <;> omega
theorem dstep_ok {N k : Nat} {q : List Int} {s : DS} {i : Nat} (hqb : ∀ i, i < q.length → 0 ≤ q.getD i 0 ∧ q.getD i 0 ≤ 255) (h : DSOk N k s) (hi : i < N) : DSOk N (k + 1) (dstep q s i) := by
  have hi2 : i < s.cs.length := by rw [h.len]; exact hi
  have zb := rspl_bd h.cx hi2 h.w.1
  have hw := h.w
  have hco := h.co
  have hb : dbit s i ≤ 1 := gB_le
  have pb : 65536 ≤ pW s.cs s.w i (dbit s i) ∧ pW s.cs s.w i (dbit s i) < 4294967296 := by
    unfold pW
    split <;> omega
  have cb : 0 ≤ gC s.cs s.w i s.co ∧ gC s.cs s.w i s.co < 4294967296 := by unfold gC; split <;> omega
  have hl : (lrnC s.cs i (dbit s i)).length = N := by rw [lrn_len, h.len]
  have hx : CxOk (lrnC s.cs i (dbit s i)) := lrn_ok h.cx (by omega)
  have hp := h.p
  have b0 := byte_at hqb s.p
  unfold dstep
  split
  · exact ⟨hl, hx, by simp only; omega, by simp only; omega, by simp only; omega⟩
  · exact ⟨hl, hx, by simp only; omega, cb, by simp only; omega⟩
theorem dRun_ok {N : Nat} {q : List Int} {ci : Nat → Nat} (hqb : ∀ i, i < q.length → 0 ≤ q.getD i 0 ∧ q.getD i 0 ≤ 255) : ∀ {k : Nat}, (∀ j, j < k → ci j < N) → DSOk N k (dRun N q ci k)
  | 0, _ => ⟨by simp [dRun], fun i hi => by
      simp only [dRun] at hi ⊢
      have e : (List.replicate N ((0 : Int), (0 : Int))).getD i (0, 0) = (0, 0) := getD_repl (by simpa using hi)
      unfold czE caE
      rw [e]; decide, by simp [dRun], by
      have b0 := byte_at hqb 0
      have b1 := byte_at hqb 1
      have b2 := byte_at hqb 2
      have b3 := byte_at hqb 3
      simp only [dRun, val]; omega, by simp [dRun]⟩
  | k + 1, h => dstep_ok hqb (dRun_ok hqb fun j hj => h j (by omega)) (h k (by omega))

theorem get_x (gc : GetC) (cs : Cx) (w b co : Int) (i : Nat) (I : Int) (eI : I = i) (q : List Int) (p : Nat) (hi : i < cs.length) (hx : CxOk cs) (hc : cs.length ≤ 4096) (hw : 16777216 ≤ w ∧ w < 4294967296) (hb : 0 ≤ b ∧ b < 1048576) (hco : 0 ≤ co ∧ co < 4294967296)
    (hq : q.length ≤ 2097152) (hqb : ∀ i, i < q.length → 0 ≤ q.getD i 0 ∧ q.getD i 0 ≤ 255) (hp : p ≤ 2097152) :
    TC R Try.prog __rangecoder_Decoder__Get_f [.ptr 0 0, .int .i64 I] (deR cs w b co q p)
      (fun v X => v = .tup [.int .i64 (gB cs w i co), .int .i64 0] ∧ X = if pW cs w i (gB cs w i co) < 16777216 then deR (lrnC cs i (gB cs w i co)) (pW cs w i (gB cs w i co) * 256) (b + 1) (gC cs w i co * 256 % 4294967296 + q.getD p 0) q (p + 1)
        else deR (lrnC cs i (gB cs w i co)) (pW cs w i (gB cs w i co)) (b + 1) (gC cs w i co) q p) := by
  subst eI
  exact gc cs w b co i q p hi hx hc hw hb hco hq hqb hp

theorem decode_c (gc : GetC) (nd : NewDecC) (N : Nat) (q ins : List Int) (ci : Nat → Nat) (hN : 1 ≤ N ∧ N ≤ 4096) (hm : ins.length ≤ 1000000) (hq : q.length ≤ 2097152) (hqb : ∀ i, i < q.length → 0 ≤ q.getD i 0 ∧ q.getD i 0 ≤ 255)
    (hc : ∀ k, k < ins.length → ins.getD k 0 = ci k ∧ ci k < N) :
    TC R Try.prog rangecoder_Decode_f [.int .i64 N, .lst Ey q, .lst Ei ins] []
      (fun v X => v = .tup [.sla 1 0 0 ins.length, .int .i64 0] ∧ X = [some (.arr Ei (tab ins.length fun k => (dbit (dRun N q ci k) (ci k) : Int)))]) := by
  obtain ⟨cs, hcs⟩ : ∃ cs : Cx, cs = List.replicate N (0, 0) := ⟨_, rfl⟩
  obtain rfl : N = cs.length := by rw [hcs]; simp
  have nc := nd cs hcs q hN hq hqb
  dsimp only [deR] at nc
  obtain ⟨B, hB⟩ : ∃ B : Nat → List Int, B = fun k => tab ins.length fun j => if j < k then ((dbit (dRun cs.length q ci j) (ci j) : Nat) : Int) else 0 := ⟨_, rfl⟩
  have lB : ∀ k, (B k).length = ins.length := fun k => by rw [hB]; exact tab_len
  have gB' : ∀ k j, j < ins.length → (B k).getD j 0 = if j < k then ((dbit (dRun cs.length q ci j) (ci j) : Nat) : Int) else 0 := fun k j hj => by rw [hB]; exact tab_get hj
  have B0 : B 0 = List.replicate ins.length 0 := ext_getD 0 (by rw [lB, List.length_replicate]) fun j hj => by
    rw [lB] at hj
    rw [gB' 0 j hj, if_neg (by omega), getD_repl hj]
  have BN : B ins.length = tab ins.length fun k => ((dbit (dRun cs.length q ci k) (ci k) : Nat) : Int) := by
    rw [hB]; exact is_tab 0 tab_len fun j hj => by rw [tab_get hj, if_pos hj]
  have sB : ∀ k, k < ins.length → (B k).set k ((dbit (dRun cs.length q ci k) (ci k) : Nat) : Int) = B (k + 1) := fun k hk => by
    refine ext_getD 0 (by rw [List.length_set, lB, lB]) fun j hj => ?_
    rw [List.length_set, lB] at hj
    rw [gB' _ j hj]
    by_cases e : k = j
    · subst e
      rw [getD_set_eq (by rw [lB]; exact hj), if_pos (by omega)]
    · rw [getD_set_ne e, gB' _ j hj]
      by_cases h1 : j < k
      · rw [if_pos h1, if_pos (by omega)]
      · rw [if_neg h1, if_neg (by omega)]
  have e0 : (dRun cs.length q ci 0).cs = cs := hcs.symm
  rw [← BN]
  have raw : TC R Try.prog rangecoder_Decode_f [.int .i64 cs.length, .lst Ey q, .lst Ei ins] []
      (fun v X => v = .tup [.sla 1 3 0 ins.length, .int .i64 0] ∧ ∃ a b c, X = [a, b, c, some (.arr Ei (B ins.length))]) := by
    refine tc env rangecoder_Decode_s (by rfl) ?_
    dsimp only [rangecoder_Decode_c]
    repeat' (first
      | ((with_reducible refine TOps.any ?_); refine TOps.callV env (by rfl) (by rfl) (by rfl) (nc) ?_)
      | with_reducible first | refine Tw.seq ?_ | refine Tw.reg ?_ | refine Tw.block ?_ | refine Tw.scope ?_ | refine Tw.skip ?_ | refine Tw.exit ?_ | refine Tw.ret ?_ | refine seqN ?_ | refine seqR ?_ | refine seqE ?_ | refine rndN ?_ | refine blkN ?_ | refine blkR ?_ | refine blkE1 ?_ | refine blkE0 (by kernel_rfl) ?_ | refine scpN ?_ | refine scpR ?_ | refine scpE ?_ | refine TOps.nil ?_ | exact Conj.nil | refine Conj.cons rfl ?_ | refine Conj.same ?_ | refine Conj.ask ?_ ?_ | refine Tw.regd env ?_ | refine TDr.nil ⟨by kernel_rfl, ?_⟩
      | ((with_reducible refine TOps.any ?_); first | refine TOps.frunP env (by rfl) (by rfl) ?_ ?_ | (refine TOps.known (by rfl) ?_; refine TOps.strip env (by rfl) (by rfl) ?_ ?_) | refine TOps.on (by rfl) (by rfl) ?_)
      | ((with_reducible refine TDr.any ?_); refine TDr.frunP env (by rfl) (by rfl) ?_ ?_)
      | ((with_reducible refine Tw.any ?_); first | refine Tw.condT (by rfl) ?_ | refine Tw.condF (by rfl) ?_)
      | ((first | ((with_reducible refine TOps.any ?_); (fail_if_success refine TOps.known (by rfl) ?_); refine TOps.ask (by rfl) (fun h => ?_) (fun h => ?_)) | ((with_reducible refine TDr.any ?_); (fail_if_success refine TDr.known (by first | rfl | assumption) ?_); refine TDr.ask (by rfl) (fun h hk => ?_) (fun h => ?_)) | ((with_reducible refine Tw.any ?_); refine Tw.cond (by rfl) (fun h => ?_) (fun h => ?_))) <;> (try simp only [goS] at h) <;> (try simp only [rdi, rdy, Int.toNat_natCast, Nat.add_zero] at h) <;> (try (exfalso; (try simp only [goP, reduceCtorEq] at h) <;> (first | assumption | omega | contradiction | (rcases h with ⟨_, _⟩ <;> first | contradiction | omega) | (rcases h with h | h <;> first | contradiction | omega)))))
      | ((with_reducible refine tret.any ?_); first | refine tret.ok (by rfl) ?_ | refine tret.okN (by rfl) ?_)
      | ((with_reducible refine Due.mk ?_); (first | with_reducible rfl | omega | assumption | decide | ((try simp only [goS] at *) <;> (try intro h) <;> (try intro h') <;> (try simp only [goS] at *) <;> (try simp only [rdi, rdy, Int.toNat_natCast, Nat.add_zero] at *) <;> (try simp only [rng]) <;> (first | assumption | omega)) | (exact due_app0 (by omega)) | (exact due_app (by omega)) | (intros; simp; done) | (intros; simp; omega)))
      | with_reducible refine Due.mk ?_
      | omega)
    refine Tw.loopK [8, 10, 28, 29] (fun k : Nat => k ≤ ins.length) (fun k => ins.length - k) (fun k => [(30, .int .i64 k)])
      (fun k => [some (.cells [.sla 2 1 0 (dRun cs.length q ci k).cs.length, .int .u32 (dRun cs.length q ci k).w, .int .i64 k, .int .u32 (dRun cs.length q ci k).co, .sla 1 2 (min (dRun cs.length q ci k).p q.length) (q.length - (dRun cs.length q ci k).p)]), some (.arr E2w (dRun cs.length q ci k).cs), some (.arr Ey q), some (.arr Ei (B k))])
      ⟨0, by omega, TWk.fcanon env [some 0, some 1, some 2, some 3] (by rfl) ?_⟩ (fun k hk => ?_)
    · repeat' (first
        | exact e0
        | exact congrArg List.length e0
        | exact B0
        | with_reducible first | refine Tw.seq ?_ | refine Tw.reg ?_ | refine Tw.block ?_ | refine Tw.scope ?_ | refine Tw.skip ?_ | refine Tw.exit ?_ | refine Tw.ret ?_ | refine seqN ?_ | refine seqR ?_ | refine seqE ?_ | refine rndN ?_ | refine blkN ?_ | refine blkR ?_ | refine blkE1 ?_ | refine blkE0 (by kernel_rfl) ?_ | refine scpN ?_ | refine scpR ?_ | refine scpE ?_ | refine TOps.nil ?_ | exact Conj.nil | refine Conj.cons rfl ?_ | refine Conj.same ?_ | refine Conj.ask ?_ ?_ | refine Tw.regd env ?_ | refine TDr.nil ⟨by kernel_rfl, ?_⟩
        | ((with_reducible refine TOps.any ?_); first | refine TOps.frunP env (by rfl) (by rfl) ?_ ?_ | (refine TOps.known (by rfl) ?_; refine TOps.strip env (by rfl) (by rfl) ?_ ?_) | refine TOps.on (by rfl) (by rfl) ?_)
        | ((with_reducible refine TDr.any ?_); refine TDr.frunP env (by rfl) (by rfl) ?_ ?_)
        | ((with_reducible refine Tw.any ?_); first | refine Tw.condT (by rfl) ?_ | refine Tw.condF (by rfl) ?_)
        | ((first | ((with_reducible refine TOps.any ?_); (fail_if_success refine TOps.known (by rfl) ?_); refine TOps.ask (by rfl) (fun h => ?_) (fun h => ?_)) | ((with_reducible refine TDr.any ?_); (fail_if_success refine TDr.known (by first | rfl | assumption) ?_); refine TDr.ask (by rfl) (fun h hk => ?_) (fun h => ?_)) | ((with_reducible refine Tw.any ?_); refine Tw.cond (by rfl) (fun h => ?_) (fun h => ?_))) <;> (try simp only [goS] at h) <;> (try simp only [rdi, rdy, Int.toNat_natCast, Nat.add_zero] at h) <;> (try (exfalso; (try simp only [goP, reduceCtorEq] at h) <;> (first | assumption | omega | contradiction | (rcases h with ⟨_, _⟩ <;> first | contradiction | omega) | (rcases h with h | h <;> first | contradiction | omega)))))
        | ((with_reducible refine tret.any ?_); first | refine tret.ok (by rfl) ?_ | refine tret.okN (by rfl) ?_)
        | ((with_reducible refine Due.mk ?_); (first | with_reducible rfl | omega | assumption | decide | ((try simp only [goS] at *) <;> (try intro h) <;> (try intro h') <;> (try simp only [goS] at *) <;> (try simp only [rdi, rdy, Int.toNat_natCast, Nat.add_zero] at *) <;> (try simp only [rng]) <;> (first | assumption | omega)) | (exact due_app0 (by omega)) | (exact due_app (by omega)) | (intros; simp; done) | (intros; simp; omega)))
        | with_reducible refine Due.mk ?_
        | omega)
    have so := dRun_ok (N := cs.length) (ci := ci) (k := k) hqb fun j hj => (hc j (by omega)).2
    have lk := lB k
    rcases Nat.lt_or_ge k ins.length with hk2 | hk2
    · have sk := sB k hk2
      have es : dRun cs.length q ci (k + 1) = dstep q (dRun cs.length q ci k) (ci k) := rfl
      generalize dRun cs.length q ci k = s at *
      have pc := get_x gc s.cs s.w k s.co (ci k) (ins.getD k 0) (hc k hk2).1 q s.p (by rw [so.len]; exact (hc k hk2).2) so.cx (by rw [so.len]; exact hN.2) so.w (by omega) so.co hq hqb (by have := so.p; omega)
      have bd : gB s.cs s.w (ci k) s.co ≤ 1 := gB_le
      have sk2 : (B k).set k ((gB s.cs s.w (ci k) s.co : Nat) : Int) = B (k + 1) := sk
      by_cases hw : pW s.cs s.w (ci k) (gB s.cs s.w (ci k) s.co) < 16777216
      · simp only [if_pos hw] at pc
        have e2 : dstep q s (ci k) = ⟨lrnC s.cs (ci k) (gB s.cs s.w (ci k) s.co), pW s.cs s.w (ci k) (gB s.cs s.w (ci k) s.co) * 256, gC s.cs s.w (ci k) s.co * 256 % 4294967296 + q.getD s.p 0, s.p + 1⟩ := if_pos hw
        dsimp only [deR] at pc ⊢
        repeat' (first
          | ((with_reducible refine TOps.any ?_); refine TOps.callHE env [0, 1, 2] (pc) (by rfl) (by rfl) (by rfl) (by rfl) (by rfl) (by rfl) (by repeat' (first | exact trivial | refine ⟨rfl, ?_⟩)) ?_)
          | with_reducible first | refine Tw.seq ?_ | refine Tw.reg ?_ | refine Tw.block ?_ | refine Tw.scope ?_ | refine Tw.skip ?_ | refine Tw.exit ?_ | refine Tw.ret ?_ | refine seqN ?_ | refine seqR ?_ | refine seqE ?_ | refine rndN ?_ | refine blkN ?_ | refine blkR ?_ | refine blkE1 ?_ | refine blkE0 (by kernel_rfl) ?_ | refine scpN ?_ | refine scpR ?_ | refine scpE ?_ | refine TOps.nil ?_ | exact Conj.nil | refine Conj.cons rfl ?_ | refine Conj.same ?_ | refine Conj.ask ?_ ?_ | refine Tw.regd env ?_ | refine TDr.nil ⟨by kernel_rfl, ?_⟩
          | ((with_reducible refine TOps.any ?_); first | refine TOps.frunP env (by rfl) (by rfl) ?_ ?_ | (refine TOps.known (by rfl) ?_; refine TOps.strip env (by rfl) (by rfl) ?_ ?_) | refine TOps.on (by rfl) (by rfl) ?_)
          | ((with_reducible refine TDr.any ?_); refine TDr.frunP env (by rfl) (by rfl) ?_ ?_)
          | ((with_reducible refine Tw.any ?_); first | refine Tw.condT (by rfl) ?_ | refine Tw.condF (by rfl) ?_)
          | ((first | ((with_reducible refine TOps.any ?_); (fail_if_success refine TOps.known (by rfl) ?_); refine TOps.ask (by rfl) (fun h => ?_) (fun h => ?_)) | ((with_reducible refine TDr.any ?_); (fail_if_success refine TDr.known (by first | rfl | assumption) ?_); refine TDr.ask (by rfl) (fun h hk => ?_) (fun h => ?_)) | ((with_reducible refine Tw.any ?_); refine Tw.cond (by rfl) (fun h => ?_) (fun h => ?_))) <;> (try simp only [goS] at h) <;> (try simp only [rdi, rdy, Int.toNat_natCast, Nat.add_zero] at h) <;> (try (exfalso; (try simp only [goP, reduceCtorEq] at h) <;> (first | assumption | omega | contradiction | (rcases h with ⟨_, _⟩ <;> first | contradiction | omega) | (rcases h with h | h <;> first | contradiction | omega)))))
          | ((with_reducible refine tret.any ?_); first | refine tret.ok (by rfl) ?_ | refine tret.okN (by rfl) ?_)
          | ((with_reducible refine Due.mk ?_); (first | with_reducible rfl | omega | assumption | decide | ((try simp only [goS] at *) <;> (try intro h) <;> (try intro h') <;> (try simp only [goS] at *) <;> (try simp only [rdi, rdy, Int.toNat_natCast, Nat.add_zero] at *) <;> (try simp only [rng]) <;> (first | assumption | omega)) | (exact due_app0 (by omega)) | (exact due_app (by omega)) | (intros; simp; done) | (intros; simp; omega)))
          | with_reducible refine Due.mk ?_
          | omega)
        refine ⟨k + 1, by omega, by omega, ?_⟩
        rw [es, e2]
        refine TWk.fcanon env [some 0, some 1, some 2, some 3] (by rfl) ?_
        repeat' (first
          | exact sk2.symm
          | with_reducible first | refine Tw.seq ?_ | refine Tw.reg ?_ | refine Tw.block ?_ | refine Tw.scope ?_ | refine Tw.skip ?_ | refine Tw.exit ?_ | refine Tw.ret ?_ | refine seqN ?_ | refine seqR ?_ | refine seqE ?_ | refine rndN ?_ | refine blkN ?_ | refine blkR ?_ | refine blkE1 ?_ | refine blkE0 (by kernel_rfl) ?_ | refine scpN ?_ | refine scpR ?_ | refine scpE ?_ | refine TOps.nil ?_ | exact Conj.nil | refine Conj.cons rfl ?_ | refine Conj.same ?_ | refine Conj.ask ?_ ?_ | refine Tw.regd env ?_ | refine TDr.nil ⟨by kernel_rfl, ?_⟩
          | ((with_reducible refine TOps.any ?_); first | refine TOps.frunP env (by rfl) (by rfl) ?_ ?_ | (refine TOps.known (by rfl) ?_; refine TOps.strip env (by rfl) (by rfl) ?_ ?_) | refine TOps.on (by rfl) (by rfl) ?_)
          | ((with_reducible refine TDr.any ?_); refine TDr.frunP env (by rfl) (by rfl) ?_ ?_)
          | ((with_reducible refine Tw.any ?_); first | refine Tw.condT (by rfl) ?_ | refine Tw.condF (by rfl) ?_)
          | ((first | ((with_reducible refine TOps.any ?_); (fail_if_success refine TOps.known (by rfl) ?_); refine TOps.ask (by rfl) (fun h => ?_) (fun h => ?_)) | ((with_reducible refine TDr.any ?_); (fail_if_success refine TDr.known (by first | rfl | assumption) ?_); refine TDr.ask (by rfl) (fun h hk => ?_) (fun h => ?_)) | ((with_reducible refine Tw.any ?_); refine Tw.cond (by rfl) (fun h => ?_) (fun h => ?_))) <;> (try simp only [goS] at h) <;> (try simp only [rdi, rdy, Int.toNat_natCast, Nat.add_zero] at h))
          | ((with_reducible refine tret.any ?_); first | refine tret.ok (by rfl) ?_ | refine tret.okN (by rfl) ?_)
          | ((with_reducible refine Due.mk ?_); (first | with_reducible rfl | omega | assumption | decide | ((try simp only [goS] at *) <;> (try intro h) <;> (try intro h') <;> (try simp only [goS] at *) <;> (try simp only [rdi, rdy, Int.toNat_natCast, Nat.add_zero] at *) <;> (try simp only [rng]) <;> (first | assumption | omega)) | (exact due_app0 (by omega)) | (exact due_app (by omega)) | (intros; simp; done) | (intros; simp; omega)))
          | with_reducible refine Due.mk ?_
          | omega)
      · simp only [if_neg hw] at pc
        have e2 : dstep q s (ci k) = ⟨lrnC s.cs (ci k) (gB s.cs s.w (ci k) s.co), pW s.cs s.w (ci k) (gB s.cs s.w (ci k) s.co), gC s.cs s.w (ci k) s.co, s.p⟩ := if_neg hw
        dsimp only [deR] at pc ⊢
        repeat' (first
          | ((with_reducible refine TOps.any ?_); refine TOps.callHE env [0, 1, 2] (pc) (by rfl) (by rfl) (by rfl) (by rfl) (by rfl) (by rfl) (by repeat' (first | exact trivial | refine ⟨rfl, ?_⟩)) ?_)
          | with_reducible first | refine Tw.seq ?_ | refine Tw.reg ?_ | refine Tw.block ?_ | refine Tw.scope ?_ | refine Tw.skip ?_ | refine Tw.exit ?_ | refine Tw.ret ?_ | refine seqN ?_ | refine seqR ?_ | refine seqE ?_ | refine rndN ?_ | refine blkN ?_ | refine blkR ?_ | refine blkE1 ?_ | refine blkE0 (by kernel_rfl) ?_ | refine scpN ?_ | refine scpR ?_ | refine scpE ?_ | refine TOps.nil ?_ | exact Conj.nil | refine Conj.cons rfl ?_ | refine Conj.same ?_ | refine Conj.ask ?_ ?_ | refine Tw.regd env ?_ | refine TDr.nil ⟨by kernel_rfl, ?_⟩
          | ((with_reducible refine TOps.any ?_); first | refine TOps.frunP env (by rfl) (by rfl) ?_ ?_ | (refine TOps.known (by rfl) ?_; refine TOps.strip env (by rfl) (by rfl) ?_ ?_) | refine TOps.on (by rfl) (by rfl) ?_)
          | ((with_reducible refine TDr.any ?_); refine TDr.frunP env (by rfl) (by rfl) ?_ ?_)
          | ((with_reducible refine Tw.any ?_); first | refine Tw.condT (by rfl) ?_ | refine Tw.condF (by rfl) ?_)
          | ((first | ((with_reducible refine TOps.any ?_); (fail_if_success refine TOps.known (by rfl) ?_); refine TOps.ask (by rfl) (fun h => ?_) (fun h => ?_)) | ((with_reducible refine TDr.any ?_); (fail_if_success refine TDr.known (by first | rfl | assumption) ?_); refine TDr.ask (by rfl) (fun h hk => ?_) (fun h => ?_)) | ((with_reducible refine Tw.any ?_); refine Tw.cond (by rfl) (fun h => ?_) (fun h => ?_))) <;> (try simp only [goS] at h) <;> (try simp only [rdi, rdy, Int.toNat_natCast, Nat.add_zero] at h) <;> (try (exfalso; (try simp only [goP, reduceCtorEq] at h) <;> (first | assumption | omega | contradiction | (rcases h with ⟨_, _⟩ <;> first | contradiction | omega) | (rcases h with h | h <;> first | contradiction | omega)))))
          | ((with_reducible refine tret.any ?_); first | refine tret.ok (by rfl) ?_ | refine tret.okN (by rfl) ?_)
          | ((with_reducible refine Due.mk ?_); (first | with_reducible rfl | omega | assumption | decide | ((try simp only [goS] at *) <;> (try intro h) <;> (try intro h') <;> (try simp only [goS] at *) <;> (try simp only [rdi, rdy, Int.toNat_natCast, Nat.add_zero] at *) <;> (try simp only [rng]) <;> (first | assumption | omega)) | (exact due_app0 (by omega)) | (exact due_app (by omega)) | (intros; simp; done) | (intros; simp; omega)))
          | with_reducible refine Due.mk ?_
          | omega)
        refine ⟨k + 1, by omega, by omega, ?_⟩
        rw [es, e2]
        refine TWk.fcanon env [some 0, some 1, some 2, some 3] (by rfl) ?_
        repeat' (first
          | exact sk2.symm
          | with_reducible first | refine Tw.seq ?_ | refine Tw.reg ?_ | refine Tw.block ?_ | refine Tw.scope ?_ | refine Tw.skip ?_ | refine Tw.exit ?_ | refine Tw.ret ?_ | refine seqN ?_ | refine seqR ?_ | refine seqE ?_ | refine rndN ?_ | refine blkN ?_ | refine blkR ?_ | refine blkE1 ?_ | refine blkE0 (by kernel_rfl) ?_ | refine scpN ?_ | refine scpR ?_ | refine scpE ?_ | refine TOps.nil ?_ | exact Conj.nil | refine Conj.cons rfl ?_ | refine Conj.same ?_ | refine Conj.ask ?_ ?_ | refine Tw.regd env ?_ | refine TDr.nil ⟨by kernel_rfl, ?_⟩
          | ((with_reducible refine TOps.any ?_); first | refine TOps.frunP env (by rfl) (by rfl) ?_ ?_ | (refine TOps.known (by rfl) ?_; refine TOps.strip env (by rfl) (by rfl) ?_ ?_) | refine TOps.on (by rfl) (by rfl) ?_)
          | ((with_reducible refine TDr.any ?_); refine TDr.frunP env (by rfl) (by rfl) ?_ ?_)
          | ((with_reducible refine Tw.any ?_); first | refine Tw.condT (by rfl) ?_ | refine Tw.condF (by rfl) ?_)
          | ((first | ((with_reducible refine TOps.any ?_); (fail_if_success refine TOps.known (by rfl) ?_); refine TOps.ask (by rfl) (fun h => ?_) (fun h => ?_)) | ((with_reducible refine TDr.any ?_); (fail_if_success refine TDr.known (by first | rfl | assumption) ?_); refine TDr.ask (by rfl) (fun h hk => ?_) (fun h => ?_)) | ((with_reducible refine Tw.any ?_); refine Tw.cond (by rfl) (fun h => ?_) (fun h => ?_))) <;> (try simp only [goS] at h) <;> (try simp only [rdi, rdy, Int.toNat_natCast, Nat.add_zero] at h))
          | ((with_reducible refine tret.any ?_); first | refine tret.ok (by rfl) ?_ | refine tret.okN (by rfl) ?_)
          | ((with_reducible refine Due.mk ?_); (first | with_reducible rfl | omega | assumption | decide | ((try simp only [goS] at *) <;> (try intro h) <;> (try intro h') <;> (try simp only [goS] at *) <;> (try simp only [rdi, rdy, Int.toNat_natCast, Nat.add_zero] at *) <;> (try simp only [rng]) <;> (first | assumption | omega)) | (exact due_app0 (by omega)) | (exact due_app (by omega)) | (intros; simp; done) | (intros; simp; omega)))
          | with_reducible refine Due.mk ?_
          | omega)
    · obtain rfl : k = ins.length := by omega
      repeat' (first
        | with_reducible first | refine Tw.seq ?_ | refine Tw.reg ?_ | refine Tw.block ?_ | refine Tw.scope ?_ | refine Tw.skip ?_ | refine Tw.exit ?_ | refine Tw.ret ?_ | refine seqN ?_ | refine seqR ?_ | refine seqE ?_ | refine rndN ?_ | refine blkN ?_ | refine blkR ?_ | refine blkE1 ?_ | refine blkE0 (by kernel_rfl) ?_ | refine scpN ?_ | refine scpR ?_ | refine scpE ?_ | refine TOps.nil ?_ | exact Conj.nil | refine Conj.cons rfl ?_ | refine Conj.same ?_ | refine Conj.ask ?_ ?_ | refine Tw.regd env ?_ | refine TDr.nil ⟨by kernel_rfl, ?_⟩
        | ((with_reducible refine TOps.any ?_); first | refine TOps.frunP env (by rfl) (by rfl) ?_ ?_ | (refine TOps.known (by rfl) ?_; refine TOps.strip env (by rfl) (by rfl) ?_ ?_) | refine TOps.on (by rfl) (by rfl) ?_)
        | ((with_reducible refine TDr.any ?_); refine TDr.frunP env (by rfl) (by rfl) ?_ ?_)
        | ((with_reducible refine Tw.any ?_); first | refine Tw.condT (by rfl) ?_ | refine Tw.condF (by rfl) ?_)
        | ((first | ((with_reducible refine TOps.any ?_); (fail_if_success refine TOps.known (by rfl) ?_); refine TOps.ask (by rfl) (fun h => ?_) (fun h => ?_)) | ((with_reducible refine TDr.any ?_); (fail_if_success refine TDr.known (by first | rfl | assumption) ?_); refine TDr.ask (by rfl) (fun h hk => ?_) (fun h => ?_)) | ((with_reducible refine Tw.any ?_); refine Tw.cond (by rfl) (fun h => ?_) (fun h => ?_))) <;> (try simp only [goS] at h) <;> (try simp only [rdi, rdy, Int.toNat_natCast, Nat.add_zero] at h) <;> (try (exfalso; (try simp only [goP, reduceCtorEq] at h) <;> (first | assumption | omega | contradiction | (rcases h with ⟨_, _⟩ <;> first | contradiction | omega) | (rcases h with h | h <;> first | contradiction | omega)))))
        | ((with_reducible refine tret.any ?_); first | refine tret.ok (by rfl) ?_ | refine tret.okN (by rfl) ?_)
        | ((with_reducible refine Due.mk ?_); (first | with_reducible rfl | omega | assumption | decide | ((try simp only [goS] at *) <;> (try intro h) <;> (try intro h') <;> (try simp only [goS] at *) <;> (try simp only [rdi, rdy, Int.toNat_natCast, Nat.add_zero] at *) <;> (try simp only [rng]) <;> (first | assumption | omega)) | (exact due_app0 (by omega)) | (exact due_app (by omega)) | (intros; simp; done) | (intros; simp; omega)))
        | with_reducible refine Due.mk ?_
        | omega)
      exact ⟨rfl, _, _, _, rfl⟩
  refine raw.wk fun v X h => ?_
  obtain ⟨rfl, a, b, c, rfl⟩ := h
  exact ⟨_, _, TWk.fcanon env [some 3] (by rfl) (by repeat' (first | exact trivial | refine ⟨rfl, ?_⟩)), rfl, rfl⟩
end Go.Proofs.Ythnfbdihihhoiaa
