/- The facts about matrix codes. -/
import Derived.Test.YthkilkjngincpaaMtx4
import Derived.Test.YthkilkjngincpaaRs5
import Derived.Test.YthkilkjngincpaaRBytes
import Derived.Test.YthkilkjngincpaaXMatrixReturns0
import Derived.Test.YthkilkjngincpaaGo
namespace Go.Proofs.Ythkilkjngincpaa
open Go Go.Lite
set_option linter.unusedVariables false
set_option linter.unusedSimpArgs false
set_option maxRecDepth 100000
set_option maxHeartbeats 4000000
-- @simp rdi rdy rdo

def m8 : List Int := [170, 129, 128, 129, 128, 129, 128, 255]
theorem matrixWorks_c : TC R Try.prog K2_matrixWorks_f [] [] (fun v X => v = .bool true ∧ X = []) := by
  have s8 : Side 8 := ⟨by omega, by omega⟩
  have e0 := mEncode0_c 8 (fun _ => 0#8) s8 (by unfold Due; decide)
  have z0 : TC R Try.prog matrix_Size_f [.int .i64 12] [] (fun v X => v = .tup [.int .i64 12, .int .i64 4, .int .i64 7, .int .i64 0] ∧ X = []) := size_c 12 ⟨by omega, by omega⟩
  have hP : mPar 8 = 2 := by decide
  have hA : mAll 8 = 4 := by decide
  have wz : ∀ k, mWord 8 0 (fun _ => 0#8) k = 0#8 := by
    have pz : mPlain 0 (fun _ => 0#8) = fun _ => 0#8 := by funext i; unfold mPlain; split <;> first | rfl | (split <;> rfl)
    have rz : ∀ n k, rmd rt 2 (fun _ => 0#8) n k = 0#8 := by
      intro n
      induction n with
      | zero => intro k; rfl
      | succ n ih => intro k; simp only [rmd, ih]; split <;> simp [mulF_zeroL]
    intro k
    unfold mWord
    rw [pz, hP]; unfold word
    split
    · rfl
    · exact rz _ _
  have eW : mWord 8 0 (fun _ => 0#8) = fun _ => 0#8 := funext wz
  rw [eW] at e0
  have eb : bm 8 8 (mMod 8 fun _ => 0#8) = m8 := by decide +kernel
  rw [eb] at e0
  have ok : BmOk 8 8 m8 := by rw [← eb]; exact bm_ok (by omega) (by omega)
  have best : mBest 8 m8 4 = (0, 0) := by decide +kernel
  have got : (bm (8 * mAll 8) 1 fun i _ => mIn 8 (mPix 8 m8 (mBest 8 m8 4).1) i) = btab 4 fun _ => 0#8 := by rw [best]; decide +kernel
  have hz : ∀ i, i < 2 → hor (rt i) (fun _ => 0#8) 4 = 0#8 := fun i _ => by simp [hor, mulF_zeroL]
  have rc := rsClean_c (fun _ => 0#8) 4 2 (by unfold Due; omega) hz
  have dc := mDecode_c 8 m8 (btab 4 fun _ => 0#8) 0 0 s8 ok (by unfold Due; rw [best]; decide) (by rw [got, hP]; exact rc) (by unfold Due; rw [hA]; exact btab_len) (by unfold Due; decide) (by unfold Due; decide) (fun i h1 h2 => by rw [hA, hP] at h2; exact btab_get (by omega))
  rw [best] at dc
  have dc2 : TC R Try.prog matrix_Decode_f [.agg [.int .i64 8, .int .i64 8, .lst Ey (cut m8 0 8)]] [] (fun v X => v = .tup [.lst Ey (cut (btab 4 fun _ => 0#8) 1 0), .int .i64 0, .int .i64 0, .int .i64 0] ∧ X = []) := dc
  have e1 : TC R Try.prog matrix_Encode_f [.nils, .int .i64 8] [] (fun v X => v = .tup [.agg [.int .i64 8, .int .i64 8, .lst Ey m8], .int .i64 0] ∧ X = []) := e0
  have sb := sameBytes_c m8 m8 (by unfold Due; decide) (by unfold Due; decide)
  rw [decide_eq_true (rfl : m8 = m8)] at sb
  refine tc0 env K2_matrixWorks_s (by rfl) ?_
  dsimp only [K2_matrixWorks_c]
  repeat' (first
    | ((with_reducible refine TOps.any ?_); refine TOps.callV env (by rfl) (by rfl) (by rfl) (e1) ?_)
    | ((with_reducible refine TOps.any ?_); refine TOps.callV env (by rfl) (by rfl) (by rfl) (z0) ?_)
    | refine GZp_i_y_o ?_ ?_ ?_ ?_ ?_ ?_ ?_ ?_
    | with_reducible first | exact BzZq.mk | refine Tw.ret ?_ | refine ImZq.i fun h => ?_ | refine IkZq.i fun hk => ?_)
  refine TOps.frz env 1 (by rfl) (by rfl) (by rfl) ?_ ?_ ?_
  · repeat' (first
      | with_reducible first | exact Conj.nil | refine Conj.cons rfl ?_ | refine Conj.same ?_ | refine Conj.ask ?_ ?_
      | ((with_reducible refine Due.mk ?_); (first | with_reducible rfl | omega | assumption | decide | ((try simp only [goS] at *) <;> (try intro h) <;> (try intro h') <;> (try simp only [goS] at *) <;> (try simp only [rdi, rdy, rdo, Int.toNat_natCast, Nat.add_zero] at *) <;> (try simp only [rng]) <;> (first | assumption | omega)) | (exact due_app0 (by omega)) | (exact due_app (by omega)) | (intros; simp; done) | (intros; simp; omega)))
      | with_reducible refine Due.mk ?_
      | omega)
  · repeat' (first
      | with_reducible first | exact Conj.nil | refine Conj.cons rfl ?_ | refine Conj.same ?_ | refine Conj.ask ?_ ?_
      | ((with_reducible refine Due.mk ?_); (first | with_reducible rfl | omega | assumption | decide | ((try simp only [goS] at *) <;> (try intro h) <;> (try intro h') <;> (try simp only [goS] at *) <;> (try simp only [rdi, rdy, rdo, Int.toNat_natCast, Nat.add_zero] at *) <;> (try simp only [rng]) <;> (first | assumption | omega)) | (exact due_app0 (by omega)) | (exact due_app (by omega)) | (intros; simp; done) | (intros; simp; omega)))
      | with_reducible refine Due.mk ?_
      | omega)
  have sb2 : TC R Try.prog R2_SameBytes_f [.lst Ey m8, .lst Ey (cut m8 0 8)] [] (fun v X => v = .bool true ∧ X = []) := sb
  repeat' (first
    | ((with_reducible refine TOps.any ?_); refine TOps.callV env (by rfl) (by rfl) (by rfl) (dc2) ?_)
    | ((with_reducible refine TOps.any ?_); refine TOps.callE env (by rfl) (by rfl) (by rfl) ?_ (sb2) (by rfl) ?_)
    | refine GZp_i_y_o ?_ ?_ ?_ ?_ ?_ ?_ ?_ ?_
    | with_reducible first | exact BzZq.mk | refine Tw.ret ?_ | refine ImZq.i fun h => ?_ | refine IkZq.i fun hk => ?_)
  exact ⟨rfl, rfl, rfl⟩
end Go.Proofs.Ythkilkjngincpaa
