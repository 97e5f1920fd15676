/- Range coder: a list of bits is encoded. -/
import Derived.Test.YtjedljdfkoagbaaRc6
import Derived.Test.YtjedljdfkoagbaaGo
namespace Go.Proofs.Ytjedljdfkoagbaa
open Go Go.Lite
set_option linter.unusedVariables false
set_option linter.unusedSimpArgs false
set_option maxRecDepth 100000
set_option maxHeartbeats 4000000
-- @simp rdi rdy

/-- What coder and decoder agree on, and the number that has been laid. -/
structure ES where
  cs : Cx
  w : Int
  V : Nat
  n : Nat
def estep (s : ES) (i t : Nat) : ES :=
  if pW s.cs s.w i t < 16777216 then ⟨lrnC s.cs i t, pW s.cs s.w i t * 256, pV s.cs s.w i t s.V * 256, s.n + 1⟩ else ⟨lrnC s.cs i t, pW s.cs s.w i t, pV s.cs s.w i t s.V, s.n⟩
def eRun (N : Nat) (ci bi : Nat → Nat) : Nat → ES
  | 0 => ⟨List.replicate N (0, 0), 4294967295, 0, 0⟩
  | k + 1 => estep (eRun N ci bi k) (ci k) (bi k)
structure ESOk (N k : Nat) (s : ES) : Prop where
  len : s.cs.length = N
  cx : CxOk s.cs
  w : 16777216 ≤ s.w ∧ s.w < 4294967296
  n : s.n ≤ k
theorem estep_ok {N k : Nat} {s : ES} {i t : Nat} (h : ESOk N k s) (hi : i < N) (ht : t ≤ 1) : ESOk N (k + 1) (estep s i t) := by
  have hi2 : i < s.cs.length := by rw [h.len]; exact hi
  have zb := rspl_bd h.cx hi2 h.w.1
  have hw := h.w
  have pb : 65536 ≤ pW s.cs s.w i t ∧ pW s.cs s.w i t < 4294967296 := by
    unfold pW
    split <;> omega
  have hl : (lrnC s.cs i t).length = N := by rw [lrn_len, h.len]
  have hx : CxOk (lrnC s.cs i t) := lrn_ok h.cx (by omega)
  have hn := h.n
  unfold estep
  split
  · exact ⟨hl, hx, by simp only; omega, by simp only; omega⟩
  · exact ⟨hl, hx, by simp only; omega, by simp only; omega⟩
theorem eRun_ok {N : Nat} {ci bi : Nat → Nat} : ∀ {k : Nat}, (∀ j, j < k → ci j < N ∧ bi j ≤ 1) → ESOk N k (eRun N ci bi k)
  | 0, _ => ⟨by simp [eRun], fun i hi => by
      simp only [eRun] at hi ⊢
      have e : (List.replicate N ((0 : Int), (0 : Int))).getD i (0, 0) = (0, 0) := getD_repl (by simpa using hi)
      unfold czE caE
      rw [e]; decide, by simp [eRun], by simp [eRun]⟩
  | k + 1, h => estep_ok (eRun_ok fun j hj => h j (by omega)) (h k (by omega)).1 (h k (by omega)).2

/-- The bytes that Close hands out. -/
def bytesOf (s : ES) : List Int := cut (dg (s.n + 4) s.V) 0 (lz (dg (s.n + 4) s.V) (s.n + 4))

theorem bytes_len {s : ES} : (bytesOf s).length = lz (dg (s.n + 4) s.V) (s.n + 4) := by
  unfold bytesOf
  exact cut_length (by rw [dg_len]; have := lz_le (L := dg (s.n + 4) s.V) (m := s.n + 4); omega)

theorem put_x (cs : Cx) (w b : Int) (i t V n : Nat) (I T : Int) (eI : I = i) (eT : T = t) (hi : i < cs.length) (h : CxOk cs) (hc : cs.length ≤ 4096) (hw : 16777216 ≤ w ∧ w < 4294967296) (hb : 0 ≤ b ∧ b < 1048576) (ht : t ≤ 1) (hn : n ≤ 2000000) :
    TC R Try.prog __rangecoder_Encoder__Put_f [.ptr 0 0, .int .i64 I, .int .i64 T] (enR cs w b (low V) n (top n V))
      (fun v X => v = .int .i64 0 ∧ X = if pW cs w i t < 16777216 then enX false (lrnC cs i t) (pW cs w i t * 256) (b + 1) (low (pV cs w i t V * 256)) (n + 1) (top (n + 1) (pV cs w i t V * 256))
        else enX true (lrnC cs i t) (pW cs w i t) (b + 1) (low (pV cs w i t V)) n (top n (pV cs w i t V))) := by
  subst eI; subst eT
  exact put_c cs w b i t V n hi h hc hw hb ht hn

theorem encode_c (N : Nat) (ins bits : List Int) (ci bi : Nat → Nat) (hN : 1 ≤ N ∧ N ≤ 4096) (hl : bits.length = ins.length) (hm : ins.length ≤ 1000000)
    (hc : ∀ k, k < ins.length → ins.getD k 0 = ci k ∧ ci k < N) (hb : ∀ k, k < ins.length → bits.getD k 0 = bi k ∧ bi k ≤ 1) :
    TC R Try.prog rangecoder_Encode_f [.int .i64 N, .lst Ei ins, .lst Ei bits] []
      (fun v X => v = .tup [.sla 1 0 0 (bytesOf (eRun N ci bi ins.length)).length, .int .i64 0] ∧ X = [some (.arr Ey (bytesOf (eRun N ci bi ins.length)))]) := by
  obtain ⟨cs, hcs⟩ : ∃ cs : Cx, cs = List.replicate N (0, 0) := ⟨_, rfl⟩
  obtain rfl : N = cs.length := by rw [hcs]; simp
  have nc := newEnc_z cs hcs hN
  dsimp only [enR] at nc
  have raw : TC R Try.prog rangecoder_Encode_f [.int .i64 cs.length, .lst Ei ins, .lst Ei bits] []
      (fun v X => v = .tup [.sla 1 3 0 (bytesOf (eRun cs.length ci bi ins.length)).length, .int .i64 0] ∧ ∃ a b c, X = [a, b, c, some (.arr Ey (bytesOf (eRun cs.length ci bi ins.length)))]) := by
    have e0 : (eRun cs.length ci bi 0).cs = cs := hcs.symm
    refine tc env rangecoder_Encode_s (by rfl) ?_
    dsimp only [rangecoder_Encode_c]
    repeat' (first
      | ((with_reducible refine TOps.any ?_); refine TOps.callV env (by rfl) (by rfl) (by rfl) (nc) ?_)
      | refine Gy_i_y hl ?_ ?_ ?_ ?_ ?_ ?_ ?_ ?_
      | with_reducible first | exact B0.mk | refine Tw.ret ?_ | refine Im.i fun h => ?_ | refine Ik.i fun hk => ?_)
    refine Tw.loopK [1, 8, 29, 30] (fun k : Nat => k ≤ ins.length) (fun k => ins.length - k) (fun k => [(31, .int .i64 k)])
      (fun k => enR (eRun cs.length ci bi k).cs (eRun cs.length ci bi k).w k (low (eRun cs.length ci bi k).V) (eRun cs.length ci bi k).n (top (eRun cs.length ci bi k).n (eRun cs.length ci bi k).V)) ⟨0, by omega, TWk.fcanon env [some 0, some 1, some 2] (by rfl) ?_⟩ (fun k hk => ?_)
    · repeat' (first
        | exact e0
        | exact congrArg List.length e0
        | with_reducible first | exact Conj.nil | refine Conj.cons rfl ?_ | refine Conj.same ?_ | refine Conj.ask ?_ ?_
        | ((with_reducible refine Due.mk ?_); (first | with_reducible rfl | omega | assumption | decide | ((try simp only [goS] at *) <;> (try intro h) <;> (try intro h') <;> (try simp only [goS] at *) <;> (try simp only [rdi, rdy, Int.toNat_natCast, Nat.add_zero] at *) <;> (try simp only [rng]) <;> (first | assumption | omega)) | (exact due_app0 (by omega)) | (exact due_app (by omega)) | (intros; simp; done) | (intros; simp; omega)))
        | with_reducible refine Due.mk ?_
        | omega)
    have so := eRun_ok (N := cs.length) (ci := ci) (bi := bi) (k := k) fun j hj => ⟨(hc j (by omega)).2, (hb j (by omega)).2⟩
    obtain ⟨s, hs⟩ : ∃ s, s = eRun cs.length ci bi k := ⟨_, rfl⟩
    rw [← hs] at so ⊢
    rcases Nat.lt_or_ge k ins.length with hk2 | hk2
    · have es : eRun cs.length ci bi (k + 1) = estep s (ci k) (bi k) := by rw [hs]; rfl
      have pc := put_x s.cs s.w k (ci k) (bi k) s.V s.n (ins.getD k 0) (bits.getD k 0) (hc k hk2).1 (hb k hk2).1 (by rw [so.len]; exact (hc k hk2).2) so.cx (by rw [so.len]; exact hN.2) so.w (by omega) (hb k hk2).2 (by have := so.n; omega)
      by_cases hw : pW s.cs s.w (ci k) (bi k) < 16777216
      · simp only [if_pos hw] at pc
        dsimp only [enR, enX] at pc ⊢
        repeat' (first
          | ((with_reducible refine TOps.any ?_); refine TOps.callHE env [0, 1, 2] (pc) (by rfl) (by rfl) (by rfl) (by rfl) (by rfl) (by rfl) (by repeat' (first | exact trivial | refine ⟨rfl, ?_⟩)) ?_)
          | refine Gp_i_y ?_ ?_ ?_ ?_ ?_ ?_ ?_ ?_
          | with_reducible first | exact B0.mk | refine Tw.ret ?_ | refine Im.i fun h => ?_ | refine Ik.i fun hk => ?_)
        have e2 : estep s (ci k) (bi k) = ⟨lrnC s.cs (ci k) (bi k), pW s.cs s.w (ci k) (bi k) * 256, pV s.cs s.w (ci k) (bi k) s.V * 256, s.n + 1⟩ := if_pos hw
        refine ⟨k + 1, by omega, by omega, ?_⟩
        rw [es, e2]
        refine TWk.fcanon env [some 0, some 1, some 3] (by rfl) ?_
        repeat' (first
          | with_reducible first | exact Conj.nil | refine Conj.cons rfl ?_ | refine Conj.same ?_ | refine Conj.ask ?_ ?_
          | ((with_reducible refine Due.mk ?_); (first | with_reducible rfl | omega | assumption | decide | ((try simp only [goS] at *) <;> (try intro h) <;> (try intro h') <;> (try simp only [goS] at *) <;> (try simp only [rdi, rdy, Int.toNat_natCast, Nat.add_zero] at *) <;> (try simp only [rng]) <;> (first | assumption | omega)) | (exact due_app0 (by omega)) | (exact due_app (by omega)) | (intros; simp; done) | (intros; simp; omega)))
          | with_reducible refine Due.mk ?_
          | omega)
      · simp only [if_neg hw] at pc
        dsimp only [enR, enX] at pc ⊢
        repeat' (first
          | ((with_reducible refine TOps.any ?_); refine TOps.callHE env [0, 1, 2] (pc) (by rfl) (by rfl) (by rfl) (by rfl) (by rfl) (by rfl) (by repeat' (first | exact trivial | refine ⟨rfl, ?_⟩)) ?_)
          | refine Gp_i_y ?_ ?_ ?_ ?_ ?_ ?_ ?_ ?_
          | with_reducible first | exact B0.mk | refine Tw.ret ?_ | refine Im.i fun h => ?_ | refine Ik.i fun hk => ?_)
        have e2 : estep s (ci k) (bi k) = ⟨lrnC s.cs (ci k) (bi k), pW s.cs s.w (ci k) (bi k), pV s.cs s.w (ci k) (bi k) s.V, s.n⟩ := if_neg hw
        refine ⟨k + 1, by omega, by omega, ?_⟩
        rw [es, e2]
        refine TWk.fcanon env [some 0, some 1, some 2] (by rfl) ?_
        repeat' (first
          | with_reducible first | exact Conj.nil | refine Conj.cons rfl ?_ | refine Conj.same ?_ | refine Conj.ask ?_ ?_
          | ((with_reducible refine Due.mk ?_); (first | with_reducible rfl | omega | assumption | decide | ((try simp only [goS] at *) <;> (try intro h) <;> (try intro h') <;> (try simp only [goS] at *) <;> (try simp only [rdi, rdy, Int.toNat_natCast, Nat.add_zero] at *) <;> (try simp only [rng]) <;> (first | assumption | omega)) | (exact due_app0 (by omega)) | (exact due_app (by omega)) | (intros; simp; done) | (intros; simp; omega)))
          | with_reducible refine Due.mk ?_
          | omega)
    · obtain rfl : k = ins.length := by omega
      have cl := close_c s.cs s.w ins.length s.V s.n (by rw [so.len]; exact hN.2) (by have := so.n; omega)
      rw [← hs]
      dsimp only [enR] at cl ⊢
      repeat' (first
        | ((with_reducible refine TOps.any ?_); refine TOps.callHE env [0, 1, 2] (cl) (by rfl) (by rfl) (by rfl) (by rfl) (by rfl) (by rfl) (by repeat' (first | exact trivial | refine ⟨rfl, ?_⟩)) ?_)
        | refine Gp_i_y ?_ ?_ ?_ ?_ ?_ ?_ ?_ ?_
        | with_reducible first | exact B0.mk | refine Tw.ret ?_ | refine Im.i fun h => ?_ | refine Ik.i fun hk => ?_)
      rw [bytes_len]
      exact ⟨rfl, _, _, _, rfl⟩
  refine raw.wk fun v X h => ?_
  obtain ⟨rfl, a, b, c, rfl⟩ := h
  exact ⟨_, _, TWk.fcanon env [some 3] (by rfl) (by repeat' (first | exact trivial | refine ⟨rfl, ?_⟩)), rfl, rfl⟩
end Go.Proofs.Ytjedljdfkoagbaa
