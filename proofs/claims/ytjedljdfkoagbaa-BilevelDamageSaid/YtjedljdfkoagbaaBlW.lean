/- The reference's own trial of compressed bitmaps. -/
import Derived.Test.YtjedljdfkoagbaaBlF
import Derived.Test.YtjedljdfkoagbaaBits2
import Derived.Test.YtjedljdfkoagbaaXBilevelDamage0
import Derived.Test.YtjedljdfkoagbaaGo
namespace Go.Proofs.Ytjedljdfkoagbaa
open Go Go.Lite
set_option linter.unusedVariables false
set_option linter.unusedSimpArgs false
set_option maxRecDepth 100000
set_option maxHeartbeats 4000000
-- @simp rdi rdy

theorem bytesW2 {l : List Int} (h : ∀ y ∈ l, Wy y) : ∀ i, i < l.length → 0 ≤ l.getD i 0 ∧ l.getD i 0 ≤ 255 := fun i hi => by
  have hm : l.getD i 0 ∈ l := getD_mem hi
  have := h _ hm
  simpa [Wy, rng] using this
def wB : List Int := [0, 8, 0, 1, 1, 0, 0, 4, 127, 255, 255, 255]
def wO : List Int := [0]
theorem enW : enB 8 1 1 (fun _ _ => false) 1 = wB := by decide +kernel
theorem bmW : bm 8 1 (fun _ _ => false) = wO := by decide +kernel
theorem encW : TC R Try.prog bilevel_Encode_f [.agg [.int .i64 8, .int .i64 1, .lst Ey wO], .int .i64 1] [] (fun v X => v = .tup [.sla 1 0 0 12, .int .i64 0] ∧ X = [some (.arr Ey wB)]) := by
  have h := encode_b 8 1 1 (fun _ _ => false) 1 (by omega) (by omega) (by omega) (by rfl) (fun k hk => enB_small (by omega) (by omega) (by omega) hk)
  rw [enW, bmW] at h
  exact h
theorem unpW : TC R Try.prog bilevel_Unpack_f [.nils, .int .i64 8, .int .i64 1] [] (fun v X => v = .tup [.agg [.int .i64 8, .int .i64 1, .sla 1 0 0 1], .int .i64 0] ∧ X = [some (.arr Ey wO)]) := by
  have h := unpack_c 8 1 (fun _ _ => false) (fun _ => false) [] (by omega) (by omega) _ rfl (fun y hy hs => by cases hs) (by decide +kernel) (by simp) (fun i hi => by simp at hi)
  unfold UnpC at h
  rw [bmW] at h
  have h0 : TC R Try.prog bilevel_Unpack_f [.lst Ey [], .int .i64 8, .int .i64 1] [] (fun v X => v = .tup [.agg [.int .i64 8, .int .i64 1, .sla 1 0 0 1], .int .i64 0] ∧ X = [some (.arr Ey wO)]) := h
  refine TC.args ?_ ?_ h0
  · rfl
  intro i h1 h2
  match i, h1 with
  | 0, _ => exact Less.nil
  | 1, _ => exact Less.same rfl
  | 2, _ => exact Less.same rfl
theorem strW : TC R Try.prog bilevel_Stripes_f [.lst Ey wB] [] (fun v X => v = .tup [.int .i64 1, .int .i64 0] ∧ X = []) := by
  have h := stripes_c 8 1 1 1 (sB 8 1 1 fun _ _ => false) (by omega) (by omega) (by omega) (by rfl) (enB_small (by omega) (by omega) (by omega) (by decide))
  have e : genB 8 1 1 (sB 8 1 1 fun _ _ => false) 1 = wB := enW
  rw [e] at h
  exact h
theorem bilevelWorks_c : TC R Try.prog K2_bilevelWorks_f [] [] (fun v X => v = .bool true ∧ X = []) := by
  have s1 : TC R Try.prog R2_SameBytes_f [.lst Ey wB, .lst Ey wB] [] (fun v X => v = .bool true ∧ X = []) := by
    have := sameBytes_c wB wB (by unfold Due; decide) (by unfold Due; decide)
    rwa [decide_eq_true rfl] at this
  have s2 : TC R Try.prog R2_SameBits_f [.agg [.int .i64 8, .int .i64 1, .lst Ey wO], .agg [.int .i64 8, .int .i64 1, .lst Ey wO]] [] (fun v X => v = .bool true ∧ X = []) := by
    have := sameBits_c 8 1 8 1 wO wO (by unfold Due; decide) (by unfold Due; decide)
    rwa [decide_eq_true ⟨rfl, rfl, rfl⟩] at this
  refine tc0 env K2_bilevelWorks_s (by rfl) ?_
  dsimp only [K2_bilevelWorks_c]
  repeat' (first
    | refine GZp_i_y ?_ ?_ ?_ ?_ ?_ ?_ ?_ ?_
    | with_reducible first | exact BzZq.mk | refine Tw.ret ?_ | refine ImZq.i fun h => ?_ | refine IkZq.i fun hk => ?_)
  refine TOps.frz env 0 (by rfl) (by rfl) (by rfl) ?_ ?_ ?_
  · repeat' (first
      | with_reducible first | exact Conj.nil | refine Conj.cons rfl ?_ | refine Conj.same ?_ | refine Conj.ask ?_ ?_
      | ((with_reducible refine Due.mk ?_); (first | with_reducible rfl | omega | assumption | decide | ((try simp only [goS] at *) <;> (try intro h) <;> (try intro h') <;> (try simp only [goS] at *) <;> (try simp only [rdi, rdy, Int.toNat_natCast, Nat.add_zero] at *) <;> (try simp only [rng]) <;> (first | assumption | omega)) | (exact due_app0 (by omega)) | (exact due_app (by omega)) | (intros; simp; done) | (intros; simp; omega)))
      | with_reducible refine Due.mk ?_
      | omega)
  · repeat' (first
      | with_reducible first | exact Conj.nil | refine Conj.cons rfl ?_ | refine Conj.same ?_ | refine Conj.ask ?_ ?_
      | ((with_reducible refine Due.mk ?_); (first | with_reducible rfl | omega | assumption | decide | ((try simp only [goS] at *) <;> (try intro h) <;> (try intro h') <;> (try simp only [goS] at *) <;> (try simp only [rdi, rdy, Int.toNat_natCast, Nat.add_zero] at *) <;> (try simp only [rng]) <;> (first | assumption | omega)) | (exact due_app0 (by omega)) | (exact due_app (by omega)) | (intros; simp; done) | (intros; simp; omega)))
      | with_reducible refine Due.mk ?_
      | omega)
  repeat' (first
    | ((with_reducible refine TOps.any ?_); refine TOps.callV env (by rfl) (by rfl) (by rfl) (encW) ?_)
    | refine GZp_i_y ?_ ?_ ?_ ?_ ?_ ?_ ?_ ?_
    | with_reducible first | exact BzZq.mk | refine Tw.ret ?_ | refine ImZq.i fun h => ?_ | refine IkZq.i fun hk => ?_)
  refine TOps.frz env 1 (by rfl) (by rfl) (by rfl) ?_ ?_ ?_
  · repeat' (first
      | with_reducible first | exact Conj.nil | refine Conj.cons rfl ?_ | refine Conj.same ?_ | refine Conj.ask ?_ ?_
      | ((with_reducible refine Due.mk ?_); (first | with_reducible rfl | omega | assumption | decide | ((try simp only [goS] at *) <;> (try intro h) <;> (try intro h') <;> (try simp only [goS] at *) <;> (try simp only [rdi, rdy, Int.toNat_natCast, Nat.add_zero] at *) <;> (try simp only [rng]) <;> (first | assumption | omega)) | (exact due_app0 (by omega)) | (exact due_app (by omega)) | (intros; simp; done) | (intros; simp; omega)))
      | with_reducible refine Due.mk ?_
      | omega)
  · repeat' (first
      | with_reducible first | exact Conj.nil | refine Conj.cons rfl ?_ | refine Conj.same ?_ | refine Conj.ask ?_ ?_
      | ((with_reducible refine Due.mk ?_); (first | with_reducible rfl | omega | assumption | decide | ((try simp only [goS] at *) <;> (try intro h) <;> (try intro h') <;> (try simp only [goS] at *) <;> (try simp only [rdi, rdy, Int.toNat_natCast, Nat.add_zero] at *) <;> (try simp only [rng]) <;> (first | assumption | omega)) | (exact due_app0 (by omega)) | (exact due_app (by omega)) | (intros; simp; done) | (intros; simp; omega)))
      | with_reducible refine Due.mk ?_
      | omega)
  repeat' (first
    | ((with_reducible refine TOps.any ?_); refine TOps.callV env (by rfl) (by rfl) (by rfl) (unpW) ?_)
    | refine GZp_i_y ?_ ?_ ?_ ?_ ?_ ?_ ?_ ?_
    | with_reducible first | exact BzZq.mk | refine Tw.ret ?_ | refine ImZq.i fun h => ?_ | refine IkZq.i fun hk => ?_)
  refine TOps.frz env 2 (by rfl) (by rfl) (by rfl) ?_ ?_ ?_
  · repeat' (first
      | with_reducible first | exact Conj.nil | refine Conj.cons rfl ?_ | refine Conj.same ?_ | refine Conj.ask ?_ ?_
      | ((with_reducible refine Due.mk ?_); (first | with_reducible rfl | omega | assumption | decide | ((try simp only [goS] at *) <;> (try intro h) <;> (try intro h') <;> (try simp only [goS] at *) <;> (try simp only [rdi, rdy, Int.toNat_natCast, Nat.add_zero] at *) <;> (try simp only [rng]) <;> (first | assumption | omega)) | (exact due_app0 (by omega)) | (exact due_app (by omega)) | (intros; simp; done) | (intros; simp; omega)))
      | with_reducible refine Due.mk ?_
      | omega)
  · repeat' (first
      | with_reducible first | exact Conj.nil | refine Conj.cons rfl ?_ | refine Conj.same ?_ | refine Conj.ask ?_ ?_
      | ((with_reducible refine Due.mk ?_); (first | with_reducible rfl | omega | assumption | decide | ((try simp only [goS] at *) <;> (try intro h) <;> (try intro h') <;> (try simp only [goS] at *) <;> (try simp only [rdi, rdy, Int.toNat_natCast, Nat.add_zero] at *) <;> (try simp only [rng]) <;> (first | assumption | omega)) | (exact due_app0 (by omega)) | (exact due_app (by omega)) | (intros; simp; done) | (intros; simp; omega)))
      | with_reducible refine Due.mk ?_
      | omega)
  repeat' (first
    | ((with_reducible refine TOps.any ?_); refine TOps.callV env (by rfl) (by rfl) (by rfl) (strW) ?_)
    | ((with_reducible refine TOps.any ?_); refine TOps.callE env (by rfl) (by rfl) (by rfl) ?_ (s1) (by rfl) ?_)
    | ((with_reducible refine TOps.any ?_); refine TOps.callE env (by rfl) (by rfl) (by rfl) ?_ (s2) (by rfl) ?_)
    | refine GZp_i_y ?_ ?_ ?_ ?_ ?_ ?_ ?_ ?_
    | with_reducible first | exact BzZq.mk | refine Tw.ret ?_ | refine ImZq.i fun h => ?_ | refine IkZq.i fun hk => ?_)
  exact ⟨rfl, congrArg TV.bool (by kernel_rfl), rfl⟩
end Go.Proofs.Ytjedljdfkoagbaa
