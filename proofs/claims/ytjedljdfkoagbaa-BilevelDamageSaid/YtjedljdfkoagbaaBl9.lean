/- Compressed bitmaps: a bitmap is encoded in stripes. -/
import Derived.Test.YtjedljdfkoagbaaBl8
import Derived.Test.YtjedljdfkoagbaaGo
namespace Go.Proofs.Ytjedljdfkoagbaa
open Go Go.Lite
set_option linter.unusedVariables false
set_option linter.unusedSimpArgs false
set_option maxRecDepth 100000
set_option maxHeartbeats 4000000
-- @simp rdi rdy

/-- The bytes of stripe k. -/
def sB (w h r : Nat) (f : Nat → Nat → Bool) (k : Nat) : List Int := stripeB w (hK h r k) (fK f r k)
/-- Bytes with their number. -/
def recB (q : List Int) : List Int := [((q.length / 65536 % 256 : Nat) : Int)] ++ n16 q.length ++ q
/-- A file of the first stripes. -/
def genB (w h r : Nat) (Q : Nat → List Int) : Nat → List Int
  | 0 => n16 w ++ n16 h ++ [(r : Int)]
  | k + 1 => genB w h r Q k ++ recB (Q k)
def enB (w h r : Nat) (f : Nat → Nat → Bool) : Nat → List Int := genB w h r (sB w h r f)
theorem encode_b (w y r : Nat) (f : Nat → Nat → Bool) (m : Nat) (hw : 1 ≤ w ∧ w ≤ 1024) (hy : 1 ≤ y ∧ y ≤ 1024) (hr : 1 ≤ r ∧ r ≤ 64) (hm : m = (y + r - 1) / r) (hl : ∀ k, k ≤ m → (enB w y r f k).length ≤ 1048576) :
    TC R Try.prog bilevel_Encode_f [.agg [.int .i64 w, .int .i64 y, .lst Ey (bm w y f)], .int .i64 r] [] (fun v X => v = .tup [.sla 1 0 0 (enB w y r f m).length, .int .i64 0] ∧ X = [some (.arr Ey (enB w y r f m))]) := by
  have raw : TC R Try.prog bilevel_Encode_f [.agg [.int .i64 w, .int .i64 y, .lst Ey (bm w y f)], .int .i64 r] [] (fun v X => v = .tup [.sla 1 1 0 (enB w y r f m).length, .int .i64 0] ∧ ∃ a, X = [a, some (.arr Ey (enB w y r f m))]) := by
    have cc := bCheck_y w y (bm w y f) (bm_ok hw hy)
    have l2 : ∀ v, (n16 v).length = 2 := fun _ => rfl
    have p1 := put16_n w (by omega)
    have p2 := put16_h (n16 w) y (by omega) (by rw [l2]; omega)
    have z1 : 0 + ((n16 w).length + 2) ≤ (n16 w ++ n16 y).length := by rw [List.length_append, l2, l2]; omega
    have z2 : ((n16 w).length + 2 + (cut [(r : Int) % 256] 0 1).length) * 1 ≤ 140737488355328 ∧ (n16 w).length + 2 + (cut [(r : Int) % 256] 0 1).length ≤ 140737488355328 := by rw [l2, cut_one]; simp only [List.length_singleton]; omega
    have qm : quo ((y : Int) + (r : Int) - 1) (r : Int) = (m : Int) := by
      rw [quo_nn (by omega), hm]
      have : (y : Int) + (r : Int) - 1 = ((y + r - 1 : Nat) : Int) := by omega
      rw [this]; exact (Int.natCast_ediv _ _).symm
    have mb : m ≤ 1087 := by
      rw [hm]
      exact Nat.le_trans (Nat.div_le_self _ _) (by omega)
    have z3 : rng .i64 (quo ((y : Int) + (r : Int) - 1) (r : Int)) := by rw [qm]; exact ⟨by omega, by omega⟩
    have e0 : enB w y r f 0 = cut (n16 w ++ n16 y) 0 ((n16 w).length + 2) ++ cut [(r : Int) % 256] 0 1 := by
      rw [cut_all (by rw [List.length_append, l2, l2]), cut_one, Int.emod_eq_of_lt (by omega) (by omega)]; rfl
    have e0l : (enB w y r f 0).length = (n16 w).length + 2 + (cut [(r : Int) % 256] 0 1).length := rfl
    refine tc env bilevel_Encode_s (by rfl) ?_
    dsimp only [bilevel_Encode_c]
    repeat' (first
      | ((with_reducible refine TOps.any ?_); refine TOps.callV env (by rfl) (by rfl) (by rfl) (cc) ?_)
      | ((with_reducible refine TDr.any ?_); refine TDr.callN env (by first | rfl | assumption) (by rfl) (by rfl) ?_ (p1) (by rfl) (by rfl) ?_)
      | ((with_reducible refine TDr.any ?_); refine TDr.callHF env [1] (p2) (by first | rfl | assumption) (by rfl) (by rfl) (by rfl) (by rfl) (by rfl) (fun _ => by rfl) (fun _ => by repeat' (first | exact trivial | refine ⟨rfl, ?_⟩)) (by rfl) (by rfl) (by rfl) ?_)
      | exact z1
      | exact z2
      | exact z3
      | refine GZp_i_y ?_ ?_ ?_ ?_ ?_ ?_ ?_ ?_
      | with_reducible first | exact BzZq.mk | refine Tw.ret ?_ | refine ImZq.i fun h => ?_ | refine IkZq.i fun hk => ?_)
    rw [qm]
    refine Tw.loopK [1, 2, 39] (fun k : Nat => k ≤ m) (fun k => m - k) (fun k => [(40, .int .i64 k), (7, .sla 1 1 0 (enB w y r f k).length)])
      (fun k => [some (.cells [.int .i64 w, .int .i64 y, .lst Ey (bm w y f)]), some (.arr Ey (enB w y r f k))]) ⟨0, by omega, TWk.fcanon env [some 0, some 4] (by rfl) ?_⟩ (fun k hk => ?_)
    · repeat' (first | exact trivial | refine ⟨rfl, ?_⟩ | refine ⟨e0l, ?_⟩ | refine ⟨e0, ?_⟩)
    have lk := hl k hk
    rcases Nat.lt_or_ge k m with hk2 | hk2
    · have hk3 : k < (y + r - 1) / r := by rw [← hm]; exact hk2
      have kb := hK_bd hr.1 hk3
      have pa := part_c w y r k f hw hy hr hk3
      have pk := packed_c w (hK y r k) (fK f r k) hw (by omega)
      have bl := bm_len (w := w) (h := hK y r k) (f := fK f r k)
      have z4 : 0 + st w * hK y r k ≤ (bm w (hK y r k) (fK f r k)).length := by rw [bl]; omega
      repeat' (first
        | ((with_reducible refine TOps.any ?_); refine TOps.callHE env [0] (pa) (by rfl) (by rfl) (by rfl) (by rfl) (by rfl) (by rfl) (by repeat' (first | exact trivial | refine ⟨rfl, ?_⟩)) ?_)
        | refine GZp_i_y ?_ ?_ ?_ ?_ ?_ ?_ ?_ ?_
        | with_reducible first | exact BzZq.mk | refine Tw.ret ?_ | refine ImZq.i fun h => ?_ | refine IkZq.i fun hk => ?_)
      refine TOps.frz env 2 (by rfl) (by rfl) (by rfl) ?_ ?_ ?_
      · repeat' (first
          | with_reducible first | exact Conj.nil | refine Conj.cons rfl ?_ | refine Conj.same ?_ | refine Conj.ask ?_ ?_
          | ((with_reducible refine Due.mk ?_); (first | with_reducible rfl | omega | assumption | decide | ((try simp only [goS] at *) <;> (try intro h) <;> (try intro h') <;> (try simp only [goS] at *) <;> (try simp only [rdi, rdy, Int.toNat_natCast, Nat.add_zero] at *) <;> (try simp only [rng]) <;> (first | assumption | omega)) | (exact due_app0 (by omega)) | (exact due_app (by omega)) | (intros; simp; done) | (intros; simp; omega)))
          | with_reducible refine Due.mk ?_
          | omega)
      · repeat' (first
          | exact z4
          | with_reducible first | exact Conj.nil | refine Conj.cons rfl ?_ | refine Conj.same ?_ | refine Conj.ask ?_ ?_
          | ((with_reducible refine Due.mk ?_); (first | with_reducible rfl | omega | assumption | decide | ((try simp only [goS] at *) <;> (try intro h) <;> (try intro h') <;> (try simp only [goS] at *) <;> (try simp only [rdi, rdy, Int.toNat_natCast, Nat.add_zero] at *) <;> (try simp only [rng]) <;> (first | assumption | omega)) | (exact due_app0 (by omega)) | (exact due_app (by omega)) | (intros; simp; done) | (intros; simp; omega)))
          | with_reducible refine Due.mk ?_
          | omega)
      rw [cut_all bl.symm]
      have eS : stripeB w (hK y r k) (fK f r k) = sB w y r f k := rfl
      rw [eS] at pk
      obtain ⟨S, hS⟩ : ∃ S, S = sB w y r f k := ⟨_, rfl⟩
      obtain ⟨B, hB⟩ : ∃ B, B = enB w y r f k := ⟨_, rfl⟩
      have ln := hl (k + 1) hk2
      have en : enB w y r f (k + 1) = B ++ ([((S.length / 65536 % 256 : Nat) : Int)] ++ n16 S.length ++ S) := by rw [hB, hS]; rfl
      rw [en, List.length_append, List.length_append, List.length_append, l2, List.length_singleton] at ln
      rw [← hS] at pk
      rw [← hB] at lk ⊢
      have ex : cut [(S.length : Int) / 2 ^ Int.toNat 16 % 256] 0 1 = [((S.length / 65536 % 256 : Nat) : Int)] := by
        show [(S.length : Int) / 65536 % 256] = _
        rw [show (S.length : Int) / 65536 % 256 = ((S.length / 65536 % 256 : Nat) : Int) by omega]
      have lx : (cut [(S.length : Int) / 2 ^ Int.toNat 16 % 256] 0 1).length = 1 := rfl
      have p3 := put16_m (cut B 0 B.length ++ cut [(S.length : Int) / 2 ^ Int.toNat 16 % 256] 0 1) (B.length + (cut [(S.length : Int) / 2 ^ Int.toNat 16 % 256] 0 1).length) (by rw [List.length_append, cut_full]) S.length (by omega) (by rw [List.length_append, cut_full, lx]; omega)
      have z6 : (B.length + (cut [(S.length : Int) / 2 ^ Int.toNat 16 % 256] 0 1).length) * 1 ≤ 140737488355328 ∧ B.length + (cut [(S.length : Int) / 2 ^ Int.toNat 16 % 256] 0 1).length ≤ 140737488355328 := by rw [lx]; omega
      have lm : (cut B 0 B.length ++ cut [(S.length : Int) / 2 ^ Int.toNat 16 % 256] 0 1 ++ n16 S.length).length = B.length + 3 := by rw [List.length_append, List.length_append, cut_full, lx, l2]
      have z7 : 0 + (B.length + (cut [(S.length : Int) / 2 ^ Int.toNat 16 % 256] 0 1).length + 2) ≤ (cut B 0 B.length ++ cut [(S.length : Int) / 2 ^ Int.toNat 16 % 256] 0 1 ++ n16 S.length).length := by rw [lm, lx]; omega
      have z8 : (B.length + (cut [(S.length : Int) / 2 ^ Int.toNat 16 % 256] 0 1).length + 2 + (cut S 0 S.length).length) * 1 ≤ 140737488355328 ∧ B.length + (cut [(S.length : Int) / 2 ^ Int.toNat 16 % 256] 0 1).length + 2 + (cut S 0 S.length).length ≤ 140737488355328 := by rw [lx, cut_full]; omega
      have eE : enB w y r f (k + 1) = cut (cut B 0 B.length ++ cut [(S.length : Int) / 2 ^ Int.toNat 16 % 256] 0 1 ++ n16 S.length) 0 (B.length + (cut [(S.length : Int) / 2 ^ Int.toNat 16 % 256] 0 1).length + 2) ++ cut S 0 S.length := by
        rw [en, cut_all (by rw [lm, lx]), cut_full, cut_full, ex, List.append_assoc, List.append_assoc, List.append_assoc]
      have eEl : (enB w y r f (k + 1)).length = B.length + (cut [(S.length : Int) / 2 ^ Int.toNat 16 % 256] 0 1).length + 2 + (cut S 0 S.length).length := by
        rw [eE, List.length_append, cut_all (by rw [lm, lx]), lm, lx]
      repeat' (first
        | ((with_reducible refine TOps.any ?_); refine TOps.callHE env [3] (pk) (by rfl) (by rfl) (by rfl) (by rfl) (by rfl) (by rfl) (by repeat' (first | exact trivial | refine ⟨rfl, ?_⟩)) ?_)
        | ((with_reducible refine TOps.any ?_); refine TOps.callHE env [6] (p3) (by rfl) (by rfl) (by rfl) (by rfl) (by rfl) (by rfl) (by repeat' (first | exact trivial | refine ⟨rfl, ?_⟩)) ?_)
        | exact z6
        | exact z7
        | exact z8
        | refine GZp_i_y ?_ ?_ ?_ ?_ ?_ ?_ ?_ ?_
        | with_reducible first | exact BzZq.mk | refine Tw.ret ?_ | refine ImZq.i fun h => ?_ | refine IkZq.i fun hk => ?_)
      refine ⟨k + 1, by omega, by omega, TWk.fcanon env [some 0, some 8] (by rfl) ?_⟩
      repeat' (first | exact trivial | refine ⟨rfl, ?_⟩ | refine ⟨eEl, ?_⟩ | refine ⟨eE, ?_⟩)
    · obtain rfl : k = m := by omega
      repeat' (first
        | refine GZp_i_y ?_ ?_ ?_ ?_ ?_ ?_ ?_ ?_
        | with_reducible first | exact BzZq.mk | refine Tw.ret ?_ | refine ImZq.i fun h => ?_ | refine IkZq.i fun hk => ?_)
      exact ⟨rfl, _, rfl⟩
  refine raw.wk fun v X h => ?_
  obtain ⟨rfl, a, rfl⟩ := h
  exact ⟨_, _, TWk.fcanon env [some 1] (by rfl) (by repeat' (first | exact trivial | refine ⟨rfl, ?_⟩)), rfl, rfl⟩
end Go.Proofs.Ytjedljdfkoagbaa
