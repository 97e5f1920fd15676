/- Range coder: digits to the base 256, the carry. -/
import Derived.Test.YtjedljdfkoagbaaRc1
import Derived.Test.YtjedljdfkoagbaaGo
namespace Go.Proofs.Ytjedljdfkoagbaa
open Go Go.Lite
set_option linter.unusedVariables false
set_option linter.unusedSimpArgs false
set_option maxRecDepth 100000
set_option maxHeartbeats 4000000
-- @simp rdi rdy

/-- The last n digits to the base 256. -/
def dg : Nat → Nat → List Int
  | 0, _ => []
  | n + 1, v => dg n (v / 256) ++ [((v % 256 : Nat) : Int)]
theorem dg_len : ∀ {n v : Nat}, (dg n v).length = n
  | 0, _ => rfl
  | n + 1, v => by simp [dg, dg_len (n := n)]
theorem dg_bytes : ∀ {n v i : Nat}, i < n → 0 ≤ (dg n v).getD i 0 ∧ (dg n v).getD i 0 ≤ 255
  | n + 1, v, i, h => by
    simp only [dg]
    by_cases hi : i < n
    · rw [getD_app1 (by rw [dg_len]; exact hi)]; exact dg_bytes hi
    · have : i = (dg n (v / 256)).length := by rw [dg_len]; omega
      rw [this, getD_snoc]; omega
theorem set_mid {α : Type} {a b : List α} {x y : α} : (a ++ x :: b).set a.length y = a ++ y :: b := by
  rw [List.set_append_right _ _ (Nat.le_refl _), Nat.sub_self]; rfl
theorem get_mid {α : Type} {a b : List α} {x d : α} : (a ++ x :: b).getD a.length d = x := by
  rw [getD_app2 (Nat.le_refl _), Nat.sub_self]; rfl
/-- m digits and zeros. -/
def dz (m n u : Nat) : List Int := dg m u ++ List.replicate (n - m) 0
theorem dz_len {m n u : Nat} (h : m ≤ n) : (dz m n u).length = n := by simp [dz, dg_len]; omega
theorem dz_cons {m n u : Nat} : dz (m + 1) n u = dg m (u / 256) ++ ((u % 256 : Nat) : Int) :: List.replicate (n - (m + 1)) 0 := by simp [dz, dg]
theorem dz_get {m n u : Nat} : (dz (m + 1) n u).getD m 0 = ((u % 256 : Nat) : Int) := by
  have e : m = (dg m (u / 256)).length := dg_len.symm
  rw [dz_cons]
  conv => lhs; arg 2; rw [e]
  exact get_mid
theorem dz_set {m n u : Nat} {y : Int} : (dz (m + 1) n u).set m y = dg m (u / 256) ++ y :: List.replicate (n - (m + 1)) 0 := by
  have e : m = (dg m (u / 256)).length := dg_len.symm
  rw [dz_cons]
  conv => lhs; arg 2; rw [e]
  exact set_mid
theorem dz_set0 {m n u : Nat} (h : m + 1 ≤ n) : (dz (m + 1) n u).set m 0 = dz m n (u / 256) := by
  rw [dz_set, dz, show n - m = (n - (m + 1)) + 1 by omega, List.replicate_succ]
theorem dz_up {m n u : Nat} (h : u % 256 ≠ 255) : (dz (m + 1) n u).set m (((u % 256 : Nat) : Int) + 1) = dz (m + 1) n (u + 1) := by
  rw [dz_set, dz_cons, show (u + 1) / 256 = u / 256 by omega, show (((u + 1) % 256 : Nat) : Int) = ((u % 256 : Nat) : Int) + 1 by omega]
theorem dz_car {m n u : Nat} (h : u % 256 = 255) (hm : m + 1 ≤ n) : dz (m + 1) n (u + 1) = dz m n (u / 256 + 1) := by
  rw [dz_cons, show (u + 1) / 256 = u / 256 + 1 by omega, show (((u + 1) % 256 : Nat) : Int) = 0 by omega, dz, show n - m = (n - (m + 1)) + 1 by omega, List.replicate_succ]
theorem dz_full {n u : Nat} : dz n n u = dg n u := by simp [dz]

def enR (cs : Cx) (w b lo : Int) (n : Nat) (x : List Int) : TH A := [some (.cells [.sla 2 1 0 cs.length, .int .u32 w, .int .i64 b, .int .u32 lo, .sla 1 2 0 n, .bool false]), some (.arr E2w cs), some (.arr Ey x)]
theorem carry_c (cs : Cx) (w b : Int) (lo : Int) (n v : Nat) (hn : n ≤ 2097152) :
    TC R Try.prog __rangecoder_Encoder__carry_f [.ptr 0 0] [some (.cells [.sla 2 1 0 cs.length, .int .u32 w, .int .i64 b, .int .u32 lo, .sla 1 2 0 n, .bool false]), some (.arr E2w cs), some (.arr Ey (dg n v))]
      (fun v' X => v' = .tup [] ∧ X = [some (.cells [.sla 2 1 0 cs.length, .int .u32 w, .int .i64 b, .int .u32 lo, .sla 1 2 0 n, .bool false]), some (.arr E2w cs), some (.arr Ey (dg n (v + 1)))]) := by
  refine tc env __rangecoder_Encoder__carry_s (by rfl) ?_
  dsimp only [__rangecoder_Encoder__carry_c]
  repeat' (first
    | refine GZ_i_y ?_ ?_ ?_ ?_ ?_ ?_ ?_ ?_
    | with_reducible first | exact BzZq.mk | refine Tw.ret ?_ | refine ImZq.i fun h => ?_ | refine IkZq.i fun hk => ?_)
  refine Tw.loopK [0] (fun p : Nat × Nat => p.1 ≤ n ∧ dz p.1 n (p.2 + 1) = dg n (v + 1)) (fun p => p.1) (fun p => [(2, .int .i64 ((p.1 : Int) - 1))])
    (fun p => [some (.cells [.sla 2 1 0 cs.length, .int .u32 w, .int .i64 b, .int .u32 lo, .sla 1 2 0 n, .bool false]), some (.arr E2w cs), some (.arr Ey (dz p.1 n p.2))])
    ⟨(n, v), ⟨Nat.le_refl _, dz_full⟩, TWk.fcanon env [some 0, some 1, some 2] (by rfl) ?_⟩ (fun p hp => ?_)
  · repeat' (first
      | exact dz_full
      | with_reducible first | exact Conj.nil | refine Conj.cons rfl ?_ | refine Conj.same ?_ | refine Conj.ask ?_ ?_
      | ((with_reducible refine Due.mk ?_); (first | with_reducible rfl | omega | assumption | decide | ((try simp only [goS] at *) <;> (try intro h) <;> (try intro h') <;> (try simp only [goS] at *) <;> (try simp only [rdi, rdy, Int.toNat_natCast, Nat.add_zero] at *) <;> (try simp only [rng]) <;> (first | assumption | omega)) | (exact due_app0 (by omega)) | (exact due_app (by omega)) | (intros; simp; done) | (intros; simp; omega)))
      | with_reducible refine Due.mk ?_
      | omega)
  obtain ⟨m, u⟩ := p
  obtain ⟨hm, hu⟩ := hp
  simp only at hm hu
  rcases m with _ | m
  · repeat' (first
      | refine GZp_i_y ?_ ?_ ?_ ?_ ?_ ?_ ?_ ?_
      | with_reducible first | exact BzZq.mk | refine Tw.ret ?_ | refine ImZq.i fun h => ?_ | refine IkZq.i fun hk => ?_)
    exact ⟨rfl, congrArg (enR cs w b lo n) (show dz 0 n u = dg n (v + 1) from hu)⟩
  · have l1 := dz_len (m := m + 1) (n := n) (u := u) hm
    have g1 : (dz (m + 1) n u).getD m 0 = ((u % 256 : Nat) : Int) := dz_get
    have s1 : ((m + 1 : Nat) : Int) - 1 = (m : Int) := by omega
    rw [s1]
    have gw : ∀ y, ((dz (m + 1) n u).set m y).getD m 0 = y := fun y => getD_set_eq (by rw [l1]; exact hm)
    by_cases h255 : u % 256 = 255
    · have e1 : (dz (m + 1) n u).set m (((dz (m + 1) n u).getD m 0 + 1) % 256) = dz m n (u / 256) := by
        rw [g1, show (((u % 256 : Nat) : Int) + 1) % 256 = 0 by omega]; exact dz_set0 hm
      have e2 : ((dz (m + 1) n u).set m (((dz (m + 1) n u).getD m 0 + 1) % 256)).getD m 0 = 0 := by rw [gw, g1]; omega
      repeat' (first
        | refine GZy_i_y l1 ?_ ?_ ?_ ?_ ?_ ?_ ?_ ?_
        | with_reducible first | exact BzZq.mk | refine Tw.ret ?_ | refine ImZq.i fun h => ?_ | refine IkZq.i fun hk => ?_)
      refine ⟨(m, u / 256), ⟨by simp only; omega, by simp only; rw [← hu]; exact (dz_car h255 hm).symm⟩, by simp only; omega, TWk.fcanon env [some 0, some 1, some 2] (by rfl) ?_⟩
      repeat' (first
        | exact e1.symm
        | with_reducible first | exact Conj.nil | refine Conj.cons rfl ?_ | refine Conj.same ?_ | refine Conj.ask ?_ ?_
        | ((with_reducible refine Due.mk ?_); (first | with_reducible rfl | omega | assumption | decide | ((try simp only [goS] at *) <;> (try intro h) <;> (try intro h') <;> (try simp only [goS] at *) <;> (try simp only [rdi, rdy, Int.toNat_natCast, Nat.add_zero] at *) <;> (try simp only [rng]) <;> (first | assumption | omega)) | (exact due_app0 (by omega)) | (exact due_app (by omega)) | (intros; simp; done) | (intros; simp; omega)))
        | with_reducible refine Due.mk ?_
        | omega)
    · have e1 : (dz (m + 1) n u).set m (((dz (m + 1) n u).getD m 0 + 1) % 256) = dg n (v + 1) := by
        rw [g1, show (((u % 256 : Nat) : Int) + 1) % 256 = ((u % 256 : Nat) : Int) + 1 by omega, ← hu]; exact dz_up h255
      have e2 : ((dz (m + 1) n u).set m (((dz (m + 1) n u).getD m 0 + 1) % 256)).getD m 0 ≠ 0 := by rw [gw, g1]; omega
      repeat' (first
        | refine GZy_i_y l1 ?_ ?_ ?_ ?_ ?_ ?_ ?_ ?_
        | with_reducible first | exact BzZq.mk | refine Tw.ret ?_ | refine ImZq.i fun h => ?_ | refine IkZq.i fun hk => ?_)
      exact ⟨rfl, congrArg (enR cs w b lo n) e1⟩
end Go.Proofs.Ytjedljdfkoagbaa
