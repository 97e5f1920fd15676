/- Compressed bitmaps: what is packed is unpacked. -/
import Derived.Test.YtjedljdfkoagbaaBlE
import Derived.Test.YtjedljdfkoagbaaBlD
import Derived.Test.YtjedljdfkoagbaaGo
namespace Go.Proofs.Ytjedljdfkoagbaa
open Go Go.Lite
set_option linter.unusedVariables false
set_option linter.unusedSimpArgs false
set_option maxRecDepth 100000
set_option maxHeartbeats 4000000
-- @simp rdi rdy

theorem sB_n {w k : Nat} {f : Nat → Nat → Bool} : (eRun 2049 (ctx (evs w k f (sameR w f) k)) (bitA (evs w k f (sameR w f) k)) (evs w k f (sameR w f) k).length).n ≤ k * (w + 1) := by
  have h := (eRun_ok (N := 2049) (ci := ctx (evs w k f (sameR w f) k)) (bi := bitA (evs w k f (sameR w f) k)) (k := (evs w k f (sameR w f) k).length) fun j hj => evs_all (w := w) (h := k) (f := f) (sm := sameR w f) hj).n
  have h2 := evs_le (w := w) (h := k) (f := f) (sm := sameR w f) (y := k)
  omega
theorem stripeB_len {w k : Nat} {f : Nat → Nat → Bool} : (stripeB w k f).length ≤ k * (w + 1) + 4 := by
  unfold stripeB
  rw [bytes_len]
  have h := lz_le (L := dg ((eRun 2049 (ctx (evs w k f (sameR w f) k)) (bitA (evs w k f (sameR w f) k)) (evs w k f (sameR w f) k).length).n + 4) (eRun 2049 (ctx (evs w k f (sameR w f) k)) (bitA (evs w k f (sameR w f) k)) (evs w k f (sameR w f) k).length).V) (m := (eRun 2049 (ctx (evs w k f (sameR w f) k)) (bitA (evs w k f (sameR w f) k)) (evs w k f (sameR w f) k).length).n + 4)
  have := sB_n (w := w) (k := k) (f := f)
  omega
theorem bytesOf_bd (s : ES) : ∀ j, j < (bytesOf s).length → 0 ≤ (bytesOf s).getD j 0 ∧ (bytesOf s).getD j 0 ≤ 255 := fun j hj => by
  have h := same_bytes s 0 j
  rw [List.replicate_zero, List.append_nil] at h
  rw [h]
  have e : (dg (s.n + 4) s.V).length = s.n + 4 := dg_len
  rcases Nat.lt_or_ge j (s.n + 4) with h2 | h2
  · exact dg_bytes h2
  · rw [List.getD_eq_getElem?_getD, List.getElem?_eq_none (by omega)]; decide
theorem unpack_s (w k : Nat) (f : Nat → Nat → Bool) (hw : 1 ≤ w ∧ w ≤ 1024) (hk : 1 ≤ k ∧ k ≤ 64) :
    UnpC (stripeB w k f) w k f := by
  have l1 := stripeB_len (w := w) (k := k) (f := f)
  have l2 : k * (w + 1) ≤ 64 * 1025 := Nat.mul_le_mul (by omega) (by omega)
  have qb : ∀ j, j < (stripeB w k f).length → 0 ≤ (stripeB w k f).getD j 0 ∧ (stripeB w k f).getD j 0 ≤ 255 := bytesOf_bd _
  refine unpack_c w k f (sameR w f) (stripeB w k f) hw hk _ rfl (fun y hy hs x hx => sameR_px hs hx) (fun j hj => ?_) (by omega) qb
  refine dec_bit qb (fun j hj => evs_all hj) ?_ hj
  have := same_bytes (eRun 2049 (ctx (evs w k f (sameR w f) k)) (bitA (evs w k f (sameR w f) k)) (evs w k f (sameR w f) k).length) 0
  rw [List.replicate_zero, List.append_nil] at this
  exact this
theorem unpack_any (w k : Nat) (q : List Int) (hw : 1 ≤ w ∧ w ≤ 1024) (hk : 1 ≤ k ∧ k ≤ 64) (hq : q.length ≤ 1048576) (hqb : ∀ i, i < q.length → 0 ≤ q.getD i 0 ∧ q.getD i 0 ≤ 255) :
    ∃ f : Nat → Nat → Bool, UnpC q w k f := by
  obtain ⟨f, sm, h1, h2⟩ := dec_ex 2049 w k q k
  exact ⟨f, unpack_c w k f sm q hw hk _ rfl h1 h2 hq hqb⟩
theorem encode_n (W H : Int) (D : List Int) (r : Int) (hd : ∀ i, i < D.length → 0 ≤ D.getD i 0 ∧ D.getD i 0 ≤ 255) (hc : bitsE W H D ≠ 0) :
    TC R Try.prog bilevel_Encode_f [.agg [.int .i64 W, .int .i64 H, .lst Ey D], .int .i64 r] [] (fun v X => v = .tup [.nils, .int .i64 (bitsE W H D)] ∧ X = []) := by
  have cc := bCheck_c W H D hd
  refine tc0 env bilevel_Encode_s (by rfl) ?_
  dsimp only [bilevel_Encode_c]
  repeat' (first
    | ((with_reducible refine TOps.any ?_); refine TOps.callE env (by rfl) (by rfl) (by rfl) ?_ (cc) (by rfl) ?_)
    | refine GZp_i_y ?_ ?_ ?_ ?_ ?_ ?_ ?_ ?_
    | with_reducible first | exact BzZq.mk | refine Tw.ret ?_ | refine ImZq.i fun h => ?_ | refine IkZq.i fun hk => ?_)
  exact ⟨rfl, rfl, rfl⟩
theorem enB_len {w y r : Nat} {f : Nat → Nat → Bool} (hr : 1 ≤ r) : ∀ {k : Nat}, k ≤ (y + r - 1) / r → (enB w y r f k).length ≤ 5 + k * (r * (w + 1) + 7)
  | 0, _ => by simp [enB, genB, n16]
  | k + 1, hk => by
    have ih := enB_len (w := w) (y := y) (r := r) (f := f) hr (k := k) (by omega)
    have kb := hK_bd (h := y) hr (show k < (y + r - 1) / r by omega)
    have l1 := stripeB_len (w := w) (k := hK y r k) (f := fK f r k)
    have l2 : hK y r k * (w + 1) ≤ r * (w + 1) := Nat.mul_le_mul_right _ kb.2.1
    have e : enB w y r f (k + 1) = enB w y r f k ++ recB (sB w y r f k) := rfl
    have e2 : (recB (sB w y r f k)).length = (sB w y r f k).length + 3 := by
      unfold recB
      rw [List.length_append, List.length_append]
      show 1 + 2 + _ = _
      omega
    have e3 : (sB w y r f k).length = (stripeB w (hK y r k) (fK f r k)).length := rfl
    rw [e, List.length_append, e2, e3, Nat.add_mul, Nat.one_mul]
    omega
theorem enB_small {w y r : Nat} {f : Nat → Nat → Bool} (hw : w ≤ 64) (hy : y ≤ 40) (hr : 1 ≤ r ∧ r ≤ 64) {k : Nat} (hk : k ≤ (y + r - 1) / r) : (enB w y r f k).length ≤ 1048576 := by
  have h := enB_len (w := w) (y := y) (r := r) (f := f) hr.1 hk
  have h2 : (y + r - 1) / r ≤ 103 := Nat.le_trans (Nat.div_le_self _ _) (by omega)
  have h3 : r * (w + 1) ≤ 64 * 65 := Nat.mul_le_mul hr.2 (by omega)
  have h4 : k * (r * (w + 1) + 7) ≤ 103 * (64 * 65 + 7) := Nat.mul_le_mul (by omega) (by omega)
  omega
end Go.Proofs.Ytjedljdfkoagbaa
