/- Range coder: a list of bits is decoded (given Get and NewDecoder). -/
import Derived.Test.YtjedljdfkoagbaaRc7
namespace Go.Proofs.Ytjedljdfkoagbaa
open Go Go.Lite
set_option linter.unusedVariables false
set_option linter.unusedSimpArgs false
set_option maxRecDepth 100000
set_option maxHeartbeats 4000000
-- @simp rdi rdy

def gB (cs : Cx) (w : Int) (i : Nat) (co : Int) : Nat := if co < rspl cs i w then 0 else 1
def gC (cs : Cx) (w : Int) (i : Nat) (co : Int) : Int := if co < rspl cs i w then co else co - rspl cs i w
/-- The number that the first k bytes are, zeros behind them. -/
def val (q : List Int) : Nat → Int
  | 0 => 0
  | k + 1 => val q k * 256 + q.getD k 0

/-- A decoder's state. -/
structure DS where
  cs : Cx
  w : Int
  co : Int
  p : Nat
def dbit (s : DS) (i : Nat) : Nat := gB s.cs s.w i s.co
def dstep (q : List Int) (s : DS) (i : Nat) : DS :=
  if pW s.cs s.w i (dbit s i) < 16777216 then ⟨lrnC s.cs i (dbit s i), pW s.cs s.w i (dbit s i) * 256, gC s.cs s.w i s.co * 256 % 4294967296 + q.getD s.p 0, s.p + 1⟩
  else ⟨lrnC s.cs i (dbit s i), pW s.cs s.w i (dbit s i), gC s.cs s.w i s.co, s.p⟩
def dRun (N : Nat) (q : List Int) (ci : Nat → Nat) : Nat → DS
  | 0 => ⟨List.replicate N (0, 0), 4294967295, val q 4, 4⟩
  | k + 1 => dstep q (dRun N q ci k) (ci k)
structure DSOk (N k : Nat) (s : DS) : Prop where
  len : s.cs.length = N
  cx : CxOk s.cs
  w : 16777216 ≤ s.w ∧ s.w < 4294967296
  co : 0 ≤ s.co ∧ s.co < 4294967296
  p : s.p ≤ k + 4
theorem byte_at {q : List Int} (hqb : ∀ i, i < q.length → 0 ≤ q.getD i 0 ∧ q.getD i 0 ≤ 255) (p : Nat) : 0 ≤ q.getD p 0 ∧ q.getD p 0 ≤ 255 := by
  rcases Nat.lt_or_ge p q.length with h1 | h1
  · exact hqb p h1
  · have h2 : q.getD p 0 = 0 := by rw [List.getD_eq_getElem?_getD, List.getElem?_eq_none h1]; rfl
    omega
theorem gB_le {cs : Cx} {w : Int} {i : Nat} {co : Int} : gB cs w i co ≤ 1 := by unfold gB; split <;> omega
theorem dstep_ok {N k : Nat} {q : List Int} {s : DS} {i : Nat} (hqb : ∀ i, i < q.length → 0 ≤ q.getD i 0 ∧ q.getD i 0 ≤ 255) (h : DSOk N k s) (hi : i < N) : DSOk N (k + 1) (dstep q s i) := by
  have hi2 : i < s.cs.length := by rw [h.len]; exact hi
  have zb := rspl_bd h.cx hi2 h.w.1
  have hw := h.w
  have hco := h.co
  have hb : dbit s i ≤ 1 := gB_le
  have pb : 65536 ≤ pW s.cs s.w i (dbit s i) ∧ pW s.cs s.w i (dbit s i) < 4294967296 := by
    unfold pW
    split <;> omega
  have cb : 0 ≤ gC s.cs s.w i s.co ∧ gC s.cs s.w i s.co < 4294967296 := by unfold gC; split <;> omega
  have hl : (lrnC s.cs i (dbit s i)).length = N := by rw [lrn_len, h.len]
  have hx : CxOk (lrnC s.cs i (dbit s i)) := lrn_ok h.cx (by omega)
  have hp := h.p
  have b0 := byte_at hqb s.p
  unfold dstep
  split
  · exact ⟨hl, hx, by simp only; omega, by simp only; omega, by simp only; omega⟩
  · exact ⟨hl, hx, by simp only; omega, cb, by simp only; omega⟩
theorem dRun_ok {N : Nat} {q : List Int} {ci : Nat → Nat} (hqb : ∀ i, i < q.length → 0 ≤ q.getD i 0 ∧ q.getD i 0 ≤ 255) : ∀ {k : Nat}, (∀ j, j < k → ci j < N) → DSOk N k (dRun N q ci k)
  | 0, _ => ⟨by simp [dRun], fun i hi => by
      simp only [dRun] at hi ⊢
      have e : (List.replicate N ((0 : Int), (0 : Int))).getD i (0, 0) = (0, 0) := getD_repl (by simpa using hi)
      unfold czE caE
      rw [e]; decide, by simp [dRun], by
      have b0 := byte_at hqb 0
      have b1 := byte_at hqb 1
      have b2 := byte_at hqb 2
      have b3 := byte_at hqb 3
      simp only [dRun, val]; omega, by simp [dRun]⟩
  | k + 1, h => dstep_ok hqb (dRun_ok hqb fun j hj => h j (by omega)) (h k (by omega))

end Go.Proofs.Ytjedljdfkoagbaa
