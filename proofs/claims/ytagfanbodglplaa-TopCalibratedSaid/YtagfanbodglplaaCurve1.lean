import Derived.Test.YtagfanbodglplaaNear
import Derived.Test.YtagfanbodglplaaXTopCalibrated0
import Derived.Test.YtagfanbodglplaaGo
namespace Go.Proofs.Ytagfanbodglplaa
open Go Go.Lite
set_option linter.unusedVariables false
set_option linter.unusedSimpArgs false
set_option maxRecDepth 100000
set_option maxHeartbeats 4000000

-- @simp rd2i


/-- What Check says from point i on. -/
def scan (c : List (Int × Int)) (i : Nat) : Int :=
  if h : i < c.length then
    if (c.getD i (0, 0)).1 < 0 ∨ 65280 < (c.getD i (0, 0)).1 ∨ (c.getD i (0, 0)).2 < 0 ∨ 65280 < (c.getD i (0, 0)).2 then 3
    else if 0 < i ∧ ((c.getD i (0, 0)).1 ≤ (c.getD (i - 1) (0, 0)).1 ∨ (c.getD i (0, 0)).2 < (c.getD (i - 1) (0, 0)).2) then 18
    else scan c (i + 1)
  else if (c.getD 0 (0, 0)).1 ≠ 0 ∨ (c.getD (c.length - 1) (0, 0)).1 ≠ 65280 then 4 else 0
  termination_by c.length - i
def check (c : List (Int × Int)) : Int := if 33 < c.length then 2 else if c.length < 2 then 1 else scan c 0

theorem check_c (c : List (Int × Int)) : TC R Try.prog curve_Check_f [.agg [.lst E2i c]] [] (fun v X => v = .int .i64 (check c) ∧ X = []) := by
  refine tc0 env curve_Check_s (by rfl) ?_
  dsimp only [curve_Check_c]
  repeat' (first
    | refine GZ_2i ?_ ?_ ?_ ?_ ?_ ?_ ?_ ?_
    | with_reducible first | exact BzZq.mk | refine Tw.ret ?_ | refine ImZq.i fun h => ?_ | refine IkZq.i fun hk => ?_)
  · exact ⟨rfl, by rw [check, if_pos (by omega)], rfl⟩
  · exact ⟨rfl, by rw [check, if_neg (by omega), if_pos (by omega)], rfl⟩
  have hc : check c = scan c 0 := by rw [check, if_neg (by omega), if_neg (by omega)]
  refine Tw.loopK [1, 16, 17] (fun i : Nat => i ≤ c.length ∧ scan c 0 = scan c i) (fun i => c.length - i) (fun i => [(18, .int .i64 i)]) (fun _ => [some (.cells [.lst E2i c])]) ⟨0, ⟨by omega, rfl⟩, TWk.fcanon env [some 0] (by rfl) ?_⟩ (fun i hi => ?_)
  repeat' (first
    | refine ⟨i+1, ⟨?_, ?_⟩, ?_, TWk.fcanon env [some 0] (by rfl) ?_⟩
    | with_reducible first | refine Tw.seq ?_ | refine Tw.reg ?_ | refine Tw.block ?_ | refine Tw.scope ?_ | refine Tw.skip ?_ | refine Tw.exit ?_ | refine Tw.ret ?_ | refine seqN ?_ | refine seqR ?_ | refine seqE ?_ | refine rndN ?_ | refine blkN ?_ | refine blkR ?_ | refine blkE1 ?_ | refine blkE0 (by kernel_rfl) ?_ | refine scpN ?_ | refine scpR ?_ | refine scpE ?_ | refine TOps.nil ?_ | exact Conj.nil | refine Conj.cons rfl ?_ | refine Conj.same ?_ | refine Conj.ask ?_ ?_ | refine Tw.regd env ?_ | refine TDr.nil ⟨by kernel_rfl, ?_⟩
    | ((with_reducible refine TOps.any ?_); first | refine TOps.frunP env (by rfl) (by rfl) ?_ ?_ | (refine TOps.known (by rfl) ?_; refine TOps.strip env (by rfl) (by rfl) ?_ ?_) | refine TOps.on (by rfl) (by rfl) ?_)
    | ((with_reducible refine TDr.any ?_); refine TDr.frunP env (by rfl) (by rfl) ?_ ?_)
    | ((with_reducible refine Tw.any ?_); first | refine Tw.condT (by rfl) ?_ | refine Tw.condF (by rfl) ?_)
    | ((first | ((with_reducible refine TOps.any ?_); (fail_if_success refine TOps.known (by rfl) ?_); refine TOps.ask (by rfl) (fun h => ?_) (fun h => ?_)) | ((with_reducible refine TDr.any ?_); (fail_if_success refine TDr.known (by first | rfl | assumption) ?_); refine TDr.ask (by rfl) (fun h hk => ?_) (fun h => ?_)) | ((with_reducible refine Tw.any ?_); refine Tw.cond (by rfl) (fun h => ?_) (fun h => ?_))) <;> (try simp only [goS] at h) <;> (try simp only [rd2i, Int.toNat_natCast, Nat.add_zero] at h))
    | ((with_reducible refine tret.any ?_); first | refine tret.ok (by rfl) ?_ | refine tret.okN (by rfl) ?_)
    | ((with_reducible refine Due.mk ?_); (first | with_reducible rfl | omega | assumption | decide | ((try simp only [goS] at *) <;> (try intro h) <;> (try intro h') <;> (try simp only [goS] at *) <;> (try simp only [rd2i, Int.toNat_natCast, Nat.add_zero] at *) <;> (try simp only [rng]) <;> (first | assumption | omega)) | (exact due_app0 (by omega)) | (exact due_app (by omega)) | (intros; simp; done) | (intros; simp; omega)))
    | with_reducible refine Due.mk ?_
    | omega)
  · exact ⟨rfl, by rw [hc, hi.2, scan, dif_pos (by omega), if_pos (by omega)], rfl⟩
  · rw [show ((i : Int) - 1).toNat = i - 1 by omega] at h
    exact ⟨rfl, by rw [hc, hi.2, scan, dif_pos (by omega), if_neg (by omega), if_pos (by omega)], rfl⟩
  · rw [show ((i : Int) - 1).toNat = i - 1 by omega] at h
    rw [hi.2, scan, dif_pos (by omega), if_neg (by omega), if_neg (by omega)]
  repeat' (first
    | refine GZ_2i ?_ ?_ ?_ ?_ ?_ ?_ ?_ ?_
    | with_reducible first | exact BzZq.mk | refine Tw.ret ?_ | refine ImZq.i fun h => ?_ | refine IkZq.i fun hk => ?_)
  · rw [show ((c.length : Int) - 1).toNat = c.length - 1 by omega] at h
    exact ⟨rfl, by rw [hc, hi.2, scan, dif_neg (by omega), if_pos (by omega)], rfl⟩
  · rw [show ((c.length : Int) - 1).toNat = c.length - 1 by omega] at h
    exact ⟨rfl, by rw [hc, hi.2, scan, dif_neg (by omega), if_neg (by omega)], rfl⟩

/-- What Check answers 0 to. -/
structure Valid (c : List (Int × Int)) : Prop where
  len : 2 ≤ c.length ∧ c.length ≤ 33
  rg : ∀ i, i < c.length → 0 ≤ (c.getD i (0, 0)).1 ∧ (c.getD i (0, 0)).1 ≤ 65280 ∧ 0 ≤ (c.getD i (0, 0)).2 ∧ (c.getD i (0, 0)).2 ≤ 65280
  ord : ∀ i, i + 1 < c.length → (c.getD i (0, 0)).1 < (c.getD (i + 1) (0, 0)).1 ∧ (c.getD i (0, 0)).2 ≤ (c.getD (i + 1) (0, 0)).2
  first : (c.getD 0 (0, 0)).1 = 0
  last : (c.getD (c.length - 1) (0, 0)).1 = 65280

theorem scan_ok (c : List (Int × Int)) (n : Nat) : ∀ i, c.length - i = n → scan c i = 0 → (∀ j, i ≤ j → j < c.length → 0 ≤ (c.getD j (0, 0)).1 ∧ (c.getD j (0, 0)).1 ≤ 65280 ∧ 0 ≤ (c.getD j (0, 0)).2 ∧ (c.getD j (0, 0)).2 ≤ 65280) ∧
    (∀ j, i ≤ j → 0 < j → j < c.length → (c.getD (j - 1) (0, 0)).1 < (c.getD j (0, 0)).1 ∧ (c.getD (j - 1) (0, 0)).2 ≤ (c.getD j (0, 0)).2) ∧ (c.getD 0 (0, 0)).1 = 0 ∧ (c.getD (c.length - 1) (0, 0)).1 = 65280 := by
  induction n with
  | zero =>
    intro i hn h
    rw [scan, dif_neg (by omega)] at h
    split at h
    · cases h
    · exact ⟨fun j h1 h2 => by omega, fun j h1 h2 h3 => by omega, by omega, by omega⟩
  | succ n ih =>
    intro i hn h
    rw [scan, dif_pos (by omega)] at h
    split at h
    · cases h
    · rename_i h1
      split at h
      · cases h
      · rename_i h2
        obtain ⟨k1, k2, k3, k4⟩ := ih (i + 1) (by omega) h
        refine ⟨fun j hj hl => ?_, fun j hj h0 hl => ?_, k3, k4⟩
        · by_cases e : j = i
          · subst e; omega
          · exact k1 j (by omega) hl
        · by_cases e : j = i
          · subst e; omega
          · exact k2 j (by omega) h0 hl

theorem check_ok {c : List (Int × Int)} (h : check c = 0) : Valid c := by
  unfold check at h
  split at h
  · cases h
  · split at h
    · cases h
    · obtain ⟨k1, k2, k3, k4⟩ := scan_ok c _ 0 rfl h
      exact ⟨by omega, fun i hi => k1 i (by omega) hi, fun i hi => k2 (i + 1) (by omega) (by omega) hi, k3, k4⟩
end Go.Proofs.Ytagfanbodglplaa
