/- Range coder: a list of bits is encoded. -/
import Derived.Test.YtjedljdfkoagbaaRc6
import Derived.Test.YtjedljdfkoagbaaGo
namespace Go.Proofs.Ytjedljdfkoagbaa
open Go Go.Lite
set_option linter.unusedVariables false
set_option linter.unusedSimpArgs false
set_option maxRecDepth 100000
set_option maxHeartbeats 4000000
-- @simp rdi rdy

/-- What coder and decoder agree on, and the number that has been laid. -/
structure ES where
  cs : Cx
  w : Int
  V : Nat
  n : Nat
def estep (s : ES) (i t : Nat) : ES :=
  if pW s.cs s.w i t < 16777216 then ⟨lrnC s.cs i t, pW s.cs s.w i t * 256, pV s.cs s.w i t s.V * 256, s.n + 1⟩ else ⟨lrnC s.cs i t, pW s.cs s.w i t, pV s.cs s.w i t s.V, s.n⟩
def eRun (N : Nat) (ci bi : Nat → Nat) : Nat → ES
  | 0 => ⟨List.replicate N (0, 0), 4294967295, 0, 0⟩
  | k + 1 => estep (eRun N ci bi k) (ci k) (bi k)
structure ESOk (N k : Nat) (s : ES) : Prop where
  len : s.cs.length = N
  cx : CxOk s.cs
  w : 16777216 ≤ s.w ∧ s.w < 4294967296
  n : s.n ≤ k
theorem estep_ok {N k : Nat} {s : ES} {i t : Nat} (h : ESOk N k s) (hi : i < N) (ht : t ≤ 1) : ESOk N (k + 1) (estep s i t) := by
  have hi2 : i < s.cs.length := by rw [h.len]; exact hi
  have zb := rspl_bd h.cx hi2 h.w.1
  have hw := h.w
  have pb : 65536 ≤ pW s.cs s.w i t ∧ pW s.cs s.w i t < 4294967296 := by
    unfold pW
    split <;> omega
  have hl : (lrnC s.cs i t).length = N := by rw [lrn_len, h.len]
  have hx : CxOk (lrnC s.cs i t) := lrn_ok h.cx (by omega)
  have hn := h.n
  unfold estep
  split
  · exact ⟨hl, hx, by simp only; omega, by simp only; omega⟩
  · exact ⟨hl, hx, by simp only; omega, by simp only; omega⟩
theorem eRun_ok {N : Nat} {ci bi : Nat → Nat} : ∀ {k : Nat}, (∀ j, j < k → ci j < N ∧ bi j ≤ 1) → ESOk N k (eRun N ci bi k)
  | 0, _ => ⟨by simp [eRun], fun i hi => by
      simp only [eRun] at hi ⊢
      have e : (List.replicate N ((0 : Int), (0 : Int))).getD i (0, 0) = (0, 0) := getD_repl (by simpa using hi)
      unfold czE caE
      rw [e]; decide, by simp [eRun], by simp [eRun]⟩
  | k + 1, h => estep_ok (eRun_ok fun j hj => h j (by omega)) (h k (by omega)).1 (h k (by omega)).2

/-- The bytes that Close hands out. -/
def bytesOf (s : ES) : List Int := cut (dg (s.n + 4) s.V) 0 (lz (dg (s.n + 4) s.V) (s.n + 4))

theorem bytes_len {s : ES} : (bytesOf s).length = lz (dg (s.n + 4) s.V) (s.n + 4) := by
  unfold bytesOf
  exact cut_length (by rw [dg_len]; have := lz_le (L := dg (s.n + 4) s.V) (m := s.n + 4); omega)

end Go.Proofs.Ytjedljdfkoagbaa
