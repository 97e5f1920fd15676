/- Links: questions are made, parameters checked. -/
import Derived.Test.YtkapjajlkpepmaaInv12
import Derived.Test.YtkapjajlkpepmaaXDevicelinkSelf0
import Derived.Test.YtkapjajlkpepmaaGo
namespace Go.Proofs.Ytkapjajlkpepmaa
open Go Go.Lite
set_option linter.unusedVariables false
set_option linter.unusedSimpArgs false
set_option maxRecDepth 100000
set_option maxHeartbeats 4000000
-- @simp rdi rd2i rdL2iJ

/-- The question for a colour. -/
def askOf (n : Nat) (l a b st tot : Int) : Ask := ⟨l, a, b, st, tot, List.replicate n 0, List.replicate n 255⟩
theorem ask_c (n : Nat) (l a b sz st tot : Int) (m : Bool) (x y z : Int) (hn : Due (n ≤ 4)) :
    TC R Try.prog devicelink_ask_f [.int .i64 n, .agg [.int .i64 l, .int .i64 a, .int .i64 b], .pel [.int .i64 sz, .int .i64 st, .int .i64 tot, .bool m, .int .i64 x, .int .i64 y, .int .i64 z]] []
    (fun v X => v = .agg (encA (askOf n l a b st tot)) ∧ X = []) := by
  dsimp only [Due] at hn
  refine tc0 env devicelink_ask_s (by rfl) ?_
  dsimp only [devicelink_ask_c, askOf, encA]
  repeat' (first
    | refine GZp_i_2i_L2iJ ?_ ?_ ?_ ?_ ?_ ?_ ?_ ?_
    | with_reducible first | exact BzZq.mk | refine Tw.ret ?_ | refine ImZq.i fun h => ?_ | refine IkZq.i fun hk => ?_)
  rw [Int.toNat_natCast]
  refine Tw.loopK [6, 7, 23] (fun i : Nat => i ≤ n) (fun i => n - i) (fun i => [(24, .int .i64 i)])
    (fun i => [none, some (.cells (encA ⟨0, 0, 0, 0, 0, [], []⟩)), some (.arr Ei (List.replicate n (0 : Int))), some (.arr Ei (ptab n i fun _ => 255)), some (.cells [.int .i64 l, .int .i64 a, .int .i64 b, .int .i64 st, .int .i64 tot, .sla 1 2 0 n, .sla 1 3 0 n])]) ⟨0, by omega, TWk.fcanon env [some 0, some 1, some 2, some 3, some 4] (by rfl) ?_⟩ (fun i hi => ?_)
  · repeat' (first
      | exact ptab_zero
      | with_reducible first | exact Conj.nil | refine Conj.cons rfl ?_ | refine Conj.same ?_ | refine Conj.ask ?_ ?_
      | ((with_reducible refine Due.mk ?_); (first | with_reducible rfl | omega | assumption | decide | ((try simp only [goS] at *) <;> (try intro h) <;> (try intro h') <;> (try simp only [goS] at *) <;> (try simp only [rdi, rd2i, rdL2iJ, Int.toNat_natCast, Nat.add_zero] at *) <;> (try simp only [rng]) <;> (first | assumption | omega)) | (exact due_app0 (by omega)) | (exact due_app (by omega)) | (intros; simp; done) | (intros; simp; omega)))
      | with_reducible refine Due.mk ?_
      | omega)
  have pl : (ptab n i fun _ => 255).length = n := ptab_len
  rcases Nat.lt_or_ge i n with hi2 | hi2
  · have ps : ptab n (i + 1) (fun _ => 255) = (ptab n i fun _ => 255).set i 255 := (ptab_set (f := fun _ => 255)).symm
    repeat' (first
      | refine GZy_i_2i_L2iJ pl ?_ ?_ ?_ ?_ ?_ ?_ ?_ ?_
      | with_reducible first | exact BzZq.mk | refine Tw.ret ?_ | refine ImZq.i fun h => ?_ | refine IkZq.i fun hk => ?_)
    refine ⟨i + 1, by omega, by omega, TWk.fcanon env [some 0, some 1, some 2, some 3, some 4] (by rfl) ?_⟩
    repeat' (first
      | exact ps
      | with_reducible first | exact Conj.nil | refine Conj.cons rfl ?_ | refine Conj.same ?_ | refine Conj.ask ?_ ?_
      | ((with_reducible refine Due.mk ?_); (first | with_reducible rfl | omega | assumption | decide | ((try simp only [goS] at *) <;> (try intro h) <;> (try intro h') <;> (try simp only [goS] at *) <;> (try simp only [rdi, rd2i, rdL2iJ, Int.toNat_natCast, Nat.add_zero] at *) <;> (try simp only [rng]) <;> (first | assumption | omega)) | (exact due_app0 (by omega)) | (exact due_app (by omega)) | (intros; simp; done) | (intros; simp; omega)))
      | with_reducible refine Due.mk ?_
      | omega)
  obtain rfl : i = n := by omega
  rw [ptab_all, show tab i (fun _ => (255 : Int)) = List.replicate i 255 from tab_repl.symm]
  repeat' (first
    | ((with_reducible refine Tw.retI ?_); refine Tw.frz env 2 (by rfl) (by rfl) (by rfl) ?_ ?_ (Tw.frz env 3 (by rfl) (by rfl) (by rfl) ?_ ?_ (Tw.ret ?_)))
    | refine GZp_i_2i_L2iJ ?_ ?_ ?_ ?_ ?_ ?_ ?_ ?_
    | with_reducible first | exact BzZq.mk | refine Tw.ret ?_ | refine ImZq.i fun h => ?_ | refine IkZq.i fun hk => ?_)
  rw [cut_all (by simp), cut_all (by simp)]
  exact ⟨rfl, rfl, rfl⟩
theorem ask_raw (n : Nat) (l a b sz st tot : Int) (m : Bool) (x y z : Int) (hn : Due (n ≤ 4)) :
    TC R Try.prog devicelink_ask_f [.int .i64 n, .agg [.int .i64 l, .int .i64 a, .int .i64 b], .pel [.int .i64 sz, .int .i64 st, .int .i64 tot, .bool m, .int .i64 x, .int .i64 y, .int .i64 z]] []
    (fun v X => v = .agg [.int .i64 l, .int .i64 a, .int .i64 b, .int .i64 st, .int .i64 tot, .sla 1 1 0 n, .sla 1 2 0 n] ∧ ∃ c, X = [c, some (.arr Ei (List.replicate n (0 : Int))), some (.arr Ei (List.replicate n (255 : Int)))]) := by
  dsimp only [Due] at hn
  refine tc env devicelink_ask_s (by rfl) ?_
  dsimp only [devicelink_ask_c]
  repeat' (first
    | refine GZp_i_2i_L2iJ ?_ ?_ ?_ ?_ ?_ ?_ ?_ ?_
    | with_reducible first | exact BzZq.mk | refine Tw.ret ?_ | refine ImZq.i fun h => ?_ | refine IkZq.i fun hk => ?_)
  rw [Int.toNat_natCast]
  refine Tw.loopK [6, 7, 23] (fun i : Nat => i ≤ n) (fun i => n - i) (fun i => [(24, .int .i64 i)])
    (fun i => [none, some (.cells (encA ⟨0, 0, 0, 0, 0, [], []⟩)), some (.arr Ei (List.replicate n (0 : Int))), some (.arr Ei (ptab n i fun _ => 255)), some (.cells [.int .i64 l, .int .i64 a, .int .i64 b, .int .i64 st, .int .i64 tot, .sla 1 2 0 n, .sla 1 3 0 n])]) ⟨0, by omega, TWk.fcanon env [some 0, some 1, some 2, some 3, some 4] (by rfl) ?_⟩ (fun i hi => ?_)
  · repeat' (first
      | exact ptab_zero
      | with_reducible first | exact Conj.nil | refine Conj.cons rfl ?_ | refine Conj.same ?_ | refine Conj.ask ?_ ?_
      | ((with_reducible refine Due.mk ?_); (first | with_reducible rfl | omega | assumption | decide | ((try simp only [goS] at *) <;> (try intro h) <;> (try intro h') <;> (try simp only [goS] at *) <;> (try simp only [rdi, rd2i, rdL2iJ, Int.toNat_natCast, Nat.add_zero] at *) <;> (try simp only [rng]) <;> (first | assumption | omega)) | (exact due_app0 (by omega)) | (exact due_app (by omega)) | (intros; simp; done) | (intros; simp; omega)))
      | with_reducible refine Due.mk ?_
      | omega)
  have pl : (ptab n i fun _ => 255).length = n := ptab_len
  rcases Nat.lt_or_ge i n with hi2 | hi2
  · have ps : ptab n (i + 1) (fun _ => 255) = (ptab n i fun _ => 255).set i 255 := (ptab_set (f := fun _ => 255)).symm
    repeat' (first
      | refine GZy_i_2i_L2iJ pl ?_ ?_ ?_ ?_ ?_ ?_ ?_ ?_
      | with_reducible first | exact BzZq.mk | refine Tw.ret ?_ | refine ImZq.i fun h => ?_ | refine IkZq.i fun hk => ?_)
    refine ⟨i + 1, by omega, by omega, TWk.fcanon env [some 0, some 1, some 2, some 3, some 4] (by rfl) ?_⟩
    repeat' (first
      | exact ps
      | with_reducible first | exact Conj.nil | refine Conj.cons rfl ?_ | refine Conj.same ?_ | refine Conj.ask ?_ ?_
      | ((with_reducible refine Due.mk ?_); (first | with_reducible rfl | omega | assumption | decide | ((try simp only [goS] at *) <;> (try intro h) <;> (try intro h') <;> (try simp only [goS] at *) <;> (try simp only [rdi, rd2i, rdL2iJ, Int.toNat_natCast, Nat.add_zero] at *) <;> (try simp only [rng]) <;> (first | assumption | omega)) | (exact due_app0 (by omega)) | (exact due_app (by omega)) | (intros; simp; done) | (intros; simp; omega)))
      | with_reducible refine Due.mk ?_
      | omega)
  obtain rfl : i = n := by omega
  rw [ptab_all, show tab i (fun _ => (255 : Int)) = List.replicate i 255 from tab_repl.symm]
  repeat' (first
    | ((with_reducible refine Tw.retI ?_); refine Tw.gc env [1, 2, 3] [6] (by rfl) (by rfl) ?_ (Tw.ret ?_))
    | refine GZp_i_2i_L2iJ ?_ ?_ ?_ ?_ ?_ ?_ ?_ ?_
    | with_reducible first | exact BzZq.mk | refine Tw.ret ?_ | refine ImZq.i fun h => ?_ | refine IkZq.i fun hk => ?_)
  all_goals exact ⟨rfl, _, rfl⟩
theorem ask_r (n : Nat) (l a b sz st tot : Int) (m : Bool) (x y z : Int) (hn : Due (n ≤ 4)) :
    TC R Try.prog devicelink_ask_f [.int .i64 n, .agg [.int .i64 l, .int .i64 a, .int .i64 b], .pel [.int .i64 sz, .int .i64 st, .int .i64 tot, .bool m, .int .i64 x, .int .i64 y, .int .i64 z]] []
    (fun v X => v = .agg [.int .i64 l, .int .i64 a, .int .i64 b, .int .i64 st, .int .i64 tot, .sla 1 0 0 n, .sla 1 1 0 n] ∧ X = [some (.arr Ei (List.replicate n (0 : Int))), some (.arr Ei (List.replicate n (255 : Int)))]) := by
  refine (ask_raw n l a b sz st tot m x y z hn).wk fun v X h => ?_
  obtain ⟨rfl, c, rfl⟩ := h
  refine ⟨_, [some (.arr Ei (List.replicate n (0 : Int))), some (.arr Ei (List.replicate n (255 : Int)))], TWk.fcanon env [some 1, some 2] (F' := [(0, .agg [.int .i64 l, .int .i64 a, .int .i64 b, .int .i64 st, .int .i64 tot, .sla 1 0 0 n, .sla 1 1 0 n])]) (by rfl) ?_, rfl, rfl⟩
  repeat' (first
    | with_reducible first | exact Conj.nil | refine Conj.cons rfl ?_ | refine Conj.same ?_ | refine Conj.ask ?_ ?_
    | ((with_reducible refine Due.mk ?_); (first | with_reducible rfl | omega | assumption | decide | ((try simp only [goS] at *) <;> (try intro h) <;> (try intro h') <;> (try simp only [goS] at *) <;> (try simp only [rdi, rd2i, rdL2iJ, Int.toNat_natCast, Nat.add_zero] at *) <;> (try simp only [rng]) <;> (first | assumption | omega)) | (exact due_app0 (by omega)) | (exact due_app (by omega)) | (intros; simp; done) | (intros; simp; omega)))
    | with_reducible refine Due.mk ?_
    | omega)
/-- The sizes of links and their steps. -/
def szOk (sz st : Nat) : Prop := (sz = 2 ∧ st = 255) ∨ (sz = 4 ∧ st = 85) ∨ (sz = 6 ∧ st = 51)
theorem ask_ok {n sz st : Nat} {l a b : Int} (h : szOk sz st) (hn : 1 ≤ n ∧ n ≤ 4) (hl : labOk l a b) : askE n (askOf n l a b st 2040) = 0 := by
  have t0 : tonesE (List.replicate n (0 : Int)) n = 0 := tonesE_ok.2 ⟨by simp, fun i hi => by rw [getD_repl (by simpa using hi)]; omega⟩
  have t1 : tonesE (List.replicate n (255 : Int)) n = 0 := tonesE_ok.2 ⟨by simp, fun i hi => by rw [getD_repl (by simpa using hi)]; omega⟩
  have so : stepOk (st : Int) := by unfold szOk at h; unfold stepOk; omega
  have cp : ¬ 20000 < cnt (st : Int) ^ n := by
    have e : cnt (st : Int) ≤ 6 := by
      rcases h with ⟨_, rfl⟩ | ⟨_, rfl⟩ | ⟨_, rfl⟩ <;> decide
    have h1 : cnt (st : Int) ^ n ≤ 6 ^ n := Nat.pow_le_pow_left e n
    have h2 : 6 ^ n ≤ 6 ^ 4 := Nat.pow_le_pow_right (by omega) hn.2
    have h3 : (6 : Nat) ^ 4 = 1296 := by decide
    omega
  unfold askE askOf
  dsimp only
  rw [labE_ok.2 hl, t0, t1, if_neg (by simp), if_neg (fun h => h so), if_neg (by omega), if_neg (by simp), if_neg (by simp), if_neg cp]
theorem dcheck_c (p : Prf) (n s sz st : Nat) (h : PrfOk p n s) (hz : szOk sz st) :
    TC R Try.prog devicelink_check_f [.pel (encP p), .pel (encP p), .pel [.int .i64 sz, .int .i64 st, .int .i64 2040, .bool false, .int .i64 0, .int .i64 0, .int .i64 0]] []
    (fun v X => v = .int .i64 (if 256 < sz ^ n then 2 else 0) ∧ X = []) := by
  have gi := h.g.i1
  have il := h.il
  have ac := ask_r n 0 0 0 sz st 2040 false 0 0 0 gi.2
  have lab0 : labOk 0 0 0 := by decide
  have cc := askCheck_c n (askOf n 0 0 0 st 2040) gi (by unfold Due askOf; simp; omega) (by unfold Due askOf; simp; omega)
  rw [ask_ok hz gi lab0] at cc
  unfold askOf at cc
  dsimp only [encA] at cc
  have z0 : cut (List.replicate n (0 : Int)) 0 n = List.replicate n 0 := cut_all (by simp)
  have z1 : cut (List.replicate n (255 : Int)) 0 n = List.replicate n 255 := cut_all (by simp)
  rw [← z0, ← z1] at cc
  have d0 : 0 + n ≤ (List.replicate n (0 : Int)).length := by simp
  have d1 : 0 + n ≤ (List.replicate n (255 : Int)).length := by simp
  clear z0 z1
  rw [← il] at ac cc d0 d1
  have pe : ∀ i, i < n → sz ^ i ≤ 7311616 ∧ sz ^ (i + 1) = sz ^ i * sz := fun i hi => pow_step (by unfold szOk at hz; omega) hi gi.2
  have pm : ∀ i, i < n → ((sz ^ (i + 1) : Nat) : Int) = ((sz ^ i : Nat) : Int) * (sz : Int) ∧ ((sz ^ i : Nat) : Int) * (sz : Int) ≤ 400000000 ∧ 0 ≤ ((sz ^ i : Nat) : Int) * (sz : Int) := fun i hi => by
    have h := pe i hi
    have h2 : sz ^ i * sz ≤ 7311616 * 52 := Nat.mul_le_mul h.1 (by unfold szOk at hz; omega)
    rw [h.2, ← Int.natCast_mul]
    exact ⟨rfl, by omega, by omega⟩
  refine tc0 env devicelink_check_s (by rfl) ?_
  dsimp only [devicelink_check_c, encP]
  unfold szOk at hz
  have hz3 : sz = 2 ∨ sz = 4 ∨ sz = 6 := by omega
  obtain ⟨e, he⟩ : ∃ e : Int, e = if 256 < sz ^ n then 2 else 0 := ⟨_, rfl⟩
  rw [← he]
  have hz4 : (sz : Int) = 2 ∨ (sz : Int) = 4 ∨ (sz : Int) = 6 := by omega
  repeat' (first
    | refine GZp_i_2i_L2iJ ?_ ?_ ?_ ?_ ?_ ?_ ?_ ?_
    | with_reducible first | exact BzZq.mk | refine Tw.ret ?_ | refine ImZq.i fun h => ?_ | refine IkZq.i fun hk => ?_)
  all_goals
    rw [il]
    refine Tw.loopK [0, 1, 2, 24] (fun i : Nat => i ≤ n) (fun i => n - i) (fun i => [(25, .int .i64 i), (7, .int .i64 (sz ^ i : Nat))]) (fun _ => []) ⟨0, by omega, TWk.fcanon env [] (by rfl) ?_⟩ (fun i hi => ?_)
    · repeat' (first
        | with_reducible first | exact Conj.nil | refine Conj.cons rfl ?_ | refine Conj.same ?_ | refine Conj.ask ?_ ?_
        | ((with_reducible refine Due.mk ?_); (first | with_reducible rfl | omega | assumption | decide | ((try simp only [goS] at *) <;> (try intro h) <;> (try intro h') <;> (try simp only [goS] at *) <;> (try simp only [rdi, rd2i, rdL2iJ, Int.toNat_natCast, Nat.add_zero] at *) <;> (try simp only [rng]) <;> (first | assumption | omega)) | (exact due_app0 (by omega)) | (exact due_app (by omega)) | (intros; simp; done) | (intros; simp; omega)))
        | with_reducible refine Due.mk ?_
        | omega)
    rcases Nat.lt_or_ge i n with hi2 | hi2
    · have p1 := pm i hi2
      repeat' (first
        | refine GZp_i_2i_L2iJ ?_ ?_ ?_ ?_ ?_ ?_ ?_ ?_
        | with_reducible first | exact BzZq.mk | refine Tw.ret ?_ | refine ImZq.i fun h => ?_ | refine IkZq.i fun hk => ?_)
      refine ⟨i + 1, by omega, by omega, TWk.fcanon env [] (by rfl) ?_⟩
      repeat' (first
        | exact p1.1
        | with_reducible first | exact Conj.nil | refine Conj.cons rfl ?_ | refine Conj.same ?_ | refine Conj.ask ?_ ?_
        | ((with_reducible refine Due.mk ?_); (first | with_reducible rfl | omega | assumption | decide | ((try simp only [goS] at *) <;> (try intro h) <;> (try intro h') <;> (try simp only [goS] at *) <;> (try simp only [rdi, rd2i, rdL2iJ, Int.toNat_natCast, Nat.add_zero] at *) <;> (try simp only [rng]) <;> (first | assumption | omega)) | (exact due_app0 (by omega)) | (exact due_app (by omega)) | (intros; simp; done) | (intros; simp; omega)))
        | with_reducible refine Due.mk ?_
        | omega)
    obtain rfl : i = n := by omega
    by_cases h6 : 256 < sz ^ i
    · rw [if_pos h6] at he
      repeat' (first
        | refine GZp_i_2i_L2iJ ?_ ?_ ?_ ?_ ?_ ?_ ?_ ?_
        | with_reducible first | exact BzZq.mk | refine Tw.ret ?_ | refine ImZq.i fun h => ?_ | refine IkZq.i fun hk => ?_)
      all_goals exact ⟨rfl, by rw [he], rfl⟩
    · rw [if_neg h6] at he
      repeat' (first
        | ((with_reducible refine TDr.any ?_); refine TDr.callN env (by first | rfl | assumption) (by rfl) (by rfl) ?_ (ac) (by rfl) (by rfl) ?_)
        | ((with_reducible refine TDr.any ?_); refine TDr.callE env (by first | rfl | assumption) (by rfl) (by rfl) ?_ (cc) (by rfl) (by rfl) ?_)
        | exact d0
        | exact d1
        | refine GZp_i_2i_L2iJ ?_ ?_ ?_ ?_ ?_ ?_ ?_ ?_
        | with_reducible first | exact BzZq.mk | refine Tw.ret ?_ | refine ImZq.i fun h => ?_ | refine IkZq.i fun hk => ?_)
      all_goals first | exact ⟨rfl, by rw [he], rfl⟩ | trace_state
end Go.Proofs.Ytkapjajlkpepmaa
