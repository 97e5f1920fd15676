/- The law SpotOrder: the order of the tints does not matter for Expand. -/
import Derived.Test.YtfgaefpdccdfiaaSpot3
import Derived.Test.YtfgaefpdccdfiaaSpotW
import Derived.Test.YtfgaefpdccdfiaaRInts
import Derived.Test.YtfgaefpdccdfiaaXSpotOrder0
namespace Go.Proofs.Ytfgaefpdccdfiaa
open Go Go.Lite
set_option linter.unusedVariables false
set_option linter.unusedSimpArgs false
set_option maxRecDepth 100000
set_option maxHeartbeats 4000000
-- @simp rdi rd2i

theorem expand_y (l : List Sp) (pr : List Int) (ns : List ByteArray) (ts : List Int) (wl : ∀ y ∈ l, Ws6iL2iJLiJ y) (h : ExpOk l pr ns ts) :
    TC R Try.prog spot_Expand_f [.lst Es6iL2iJLiJ l, .lst Ei pr, .lst Es ns, .lst Ei ts] [] (fun v X => v = .tup [.lst Ei (expL l pr ns ts), .int .i64 0] ∧ X = []) :=
  (expand_x l pr ns ts (by have := h.lib.1; omega) wl (by have := h.p8; omega) (by have := h.n8; omega) (by have := h.n8; have := h.tn; omega)).mono fun v X hh => by
    rcases hh with ⟨⟨_, rfl⟩ | ⟨h1, _⟩, rfl⟩
    · exact ⟨rfl, rfl⟩
    · exact absurd h h1
theorem exp_rev {l : List Sp} {pr : List Int} {ns : List ByteArray} {ts : List Int} (h : ExpOk l pr ns ts) : ExpOk l pr ns.reverse ts.reverse ∧ expL l pr ns.reverse ts.reverse = expL l pr ns ts := by
  have e1 : ∀ k, k < ns.length → ns.reverse.getD k dB = ns.getD (ns.length - 1 - k) dB := fun k hk => getD_rev hk
  have e2 : ∀ k, k < ns.length → ts.reverse.getD k 0 = ts.getD (ns.length - 1 - k) 0 := fun k hk => by rw [getD_rev (by rw [h.tn]; exact hk), h.tn]
  refine ⟨⟨h.lib, h.p8, by rw [List.length_reverse]; exact h.n8, h.pt, fun i hi => ?_, by rw [List.length_reverse, List.length_reverse]; exact h.tn, fun k hk => ?_⟩, ?_⟩
  · rw [List.length_reverse] at hi
    rw [getD_rev hi]; exact h.tt _ (by omega)
  · rw [List.length_reverse] at hk
    rw [e1 k hk]; exact h.ink _ (by omega)
  · unfold expL
    refine ext_getD 0 (by simp only [tab_len]) fun o ho => ?_
    rw [tab_len] at ho
    rw [tab_get ho, tab_get ho, List.length_reverse, ← sumN_rev (f := addQ l ns ts o)]
    congr 2
    refine sumN_congr fun k hk => ?_
    unfold addQ
    rw [e1 k hk, e2 k hk]

theorem SpotOrder_law (l : List Sp) (pr : List Int) (ns : List ByteArray) (ts : List Int) (wl : l.length ≤ 9223372036854775807 ∧ ∀ y ∈ l, Ws6iL2iJLiJ y) (wp : pr.length ≤ 9223372036854775807 ∧ ∀ y ∈ pr, Wi y) (wn : ns.length ≤ 9223372036854775807 ∧ ∀ y ∈ ns, Ws y) (wt : ts.length ≤ 9223372036854775807 ∧ ∀ y ∈ ts, Wi y) :
    TC R Try.prog K2_SpotOrder_f [.lst Es6iL2iJLiJ l, .lst Ei pr, .lst Es ns, .lst Ei ts] [] (fun v X => v = .bool true ∧ X = []) := by
  refine tc0 env K2_SpotOrder_s (by rfl) ?_
  dsimp only [K2_SpotOrder_c]
  by_cases h : ExpOk l pr ns ts
  · have y1 := expand_y l pr ns ts wl.2 h
    obtain ⟨h2, e⟩ := exp_rev h
    have y2 := expand_y l pr ns.reverse ts.reverse wl.2 h2
    rw [e] at y2
    have s1 := sameInts_c (expL l pr ns ts) (expL l pr ns ts) (by unfold Due; have := h.p8; simp only [expL, tab_len]; omega)
    rw [show decide (expL l pr ns ts = expL l pr ns ts) = true from decide_eq_true rfl] at s1
    have hn := h.n8
    have htn := h.tn
    generalize expL l pr ns ts = q at *
    repeat' (first
      | ((with_reducible refine TOps.any ?_); refine TOps.callV env (by rfl) (by rfl) (by rfl) (spotWorks_c) ?_)
      | ((with_reducible refine TOps.any ?_); refine TOps.callV env (by rfl) (by rfl) (by rfl) (y1) ?_)
      | with_reducible refine Tw.seq ?_
      | with_reducible refine Tw.reg ?_
      | with_reducible refine Tw.block ?_
      | with_reducible refine Tw.scope ?_
      | with_reducible refine Tw.skip ?_
      | with_reducible refine Tw.exit ?_
      | with_reducible refine Tw.ret ?_
      | with_reducible refine seqN ?_
      | with_reducible refine seqR ?_
      | with_reducible refine seqE ?_
      | with_reducible refine blkN ?_
      | with_reducible refine blkR ?_
      | with_reducible refine blkE1 ?_
      | with_reducible refine blkE0 (by kernel_rfl) ?_
      | with_reducible refine scpN ?_
      | with_reducible refine scpR ?_
      | with_reducible refine scpE ?_
      | with_reducible refine TOps.nil ?_
      | with_reducible exact Conj.nil
      | with_reducible refine Conj.cons rfl ?_
      | with_reducible refine Conj.same ?_
      | with_reducible refine Conj.ask ?_ ?_
      | ((with_reducible refine TOps.any ?_); refine TOps.frunP env (by rfl) (by rfl) ?_ ?_)
      | with_reducible refine Tw.regd env ?_
      | ((with_reducible refine TDr.any ?_); refine TDr.frunP env (by rfl) (by rfl) ?_ ?_)
      | with_reducible refine TDr.nil ⟨by kernel_rfl, ?_⟩
      | ((with_reducible refine TOps.any ?_); refine TOps.strip env (by rfl) (by rfl) ?_ ?_)
      | ((with_reducible refine TOps.any ?_); (fail_if_success refine TOps.known (by rfl) ?_); refine TOps.ask (by rfl) (fun h => ?_) (fun h => ?_) <;> (try simp only [Go.Lite.str_eq, decide_eq_true_eq, decide_eq_false_iff_not, Bool.or_eq_true, Bool.and_eq_true, Bool.or_eq_false_iff, Bool.and_eq_false_iff, Bool.not_eq_true', Bool.not_eq_false', Int.not_lt, Int.not_le, Int.toNat_natCast, Int.toNat_zero, cond_false, cond_true, Bool.not_not] at h) <;> (try simp only [rdi, rd2i, Int.toNat_natCast, Nat.add_zero] at h) <;> (try (exfalso; (try simp only [and_true, true_and, or_false, false_or, not_true_eq_false, not_false_eq_true, decide_true, Bool.not_true, Bool.false_eq_true, reduceCtorEq] at h); first | assumption | omega | contradiction | (rcases h with ⟨_, _⟩ <;> first | contradiction | omega) | (rcases h with h | h <;> first | contradiction | omega))))
      | ((with_reducible refine TDr.any ?_); (fail_if_success refine TDr.known (by first | rfl | assumption) ?_); refine TDr.ask (by rfl) (fun h hk => ?_) (fun h => ?_) <;> (try simp only [Go.Lite.str_eq, decide_eq_true_eq, decide_eq_false_iff_not, Bool.or_eq_true, Bool.and_eq_true, Bool.or_eq_false_iff, Bool.and_eq_false_iff, Bool.not_eq_true', Bool.not_eq_false', Int.not_lt, Int.not_le, Int.toNat_natCast, Int.toNat_zero, cond_false, cond_true, Bool.not_not] at h) <;> (try simp only [rdi, rd2i, Int.toNat_natCast, Nat.add_zero] at h) <;> (try (exfalso; (try simp only [and_true, true_and, or_false, false_or, not_true_eq_false, not_false_eq_true, decide_true, Bool.not_true, Bool.false_eq_true, reduceCtorEq] at h); first | assumption | omega | contradiction | (rcases h with ⟨_, _⟩ <;> first | contradiction | omega) | (rcases h with h | h <;> first | contradiction | omega))))
      | ((with_reducible refine Tw.any ?_); refine Tw.condT (by rfl) ?_)
      | ((with_reducible refine Tw.any ?_); refine Tw.condF (by rfl) ?_)
      | ((with_reducible refine Tw.any ?_); refine Tw.cond (by rfl) (fun h => ?_) (fun h => ?_) <;> (try simp only [Go.Lite.str_eq, decide_eq_true_eq, decide_eq_false_iff_not, Bool.or_eq_true, Bool.and_eq_true, Bool.or_eq_false_iff, Bool.and_eq_false_iff, Bool.not_eq_true', Bool.not_eq_false', Int.not_lt, Int.not_le, Int.toNat_natCast, Int.toNat_zero, cond_false, cond_true, Bool.not_not] at h) <;> (try simp only [rdi, rd2i, Int.toNat_natCast, Nat.add_zero] at h) <;> (try (exfalso; (try simp only [and_true, true_and, or_false, false_or, not_true_eq_false, not_false_eq_true, decide_true, Bool.not_true, Bool.false_eq_true, reduceCtorEq] at h); first | assumption | omega | contradiction | (rcases h with ⟨_, _⟩ <;> first | contradiction | omega) | (rcases h with h | h <;> first | contradiction | omega))))
      | ((with_reducible refine tret.any ?_); first | refine tret.ok (by rfl) ?_ | refine tret.okN (by rfl) ?_)
      | ((with_reducible refine Due.mk ?_); (first | with_reducible rfl | omega | assumption | decide | ((try simp only [Go.Lite.str_eq, decide_eq_true_eq, decide_eq_false_iff_not, Bool.or_eq_true, Bool.and_eq_true, Bool.or_eq_false_iff, Bool.and_eq_false_iff, Bool.not_eq_true', Bool.not_eq_false', Int.not_lt, Int.not_le, Int.toNat_natCast, Int.toNat_zero, cond_false, cond_true, Bool.not_not] at *) <;> (try intro h) <;> (try intro h') <;> (try simp only [Go.Lite.str_eq, decide_eq_true_eq, decide_eq_false_iff_not, Bool.or_eq_true, Bool.and_eq_true, Bool.or_eq_false_iff, Bool.and_eq_false_iff, Bool.not_eq_true', Bool.not_eq_false', Int.not_lt, Int.not_le, Int.toNat_natCast, Int.toNat_zero, cond_false, cond_true, Bool.not_not] at *) <;> (try simp only [rdi, rd2i, Int.toNat_natCast, Nat.add_zero] at *) <;> (try simp only [rng]) <;> (first | assumption | omega)) | (exact due_app0 (by omega)) | (exact due_app (by omega)) | (intros; simp; done) | (intros; simp; omega)))
      | with_reducible refine Due.mk ?_
      | omega)
    have tk : ∀ {α : Type} (a : List α) (d : α) (i : Nat), i < a.length → a.reverse.take (a.length - i) = a.reverse.take (a.length - (i + 1)) ++ [a.getD i d] := fun a d i hi => by
      rw [show a.length - i = (a.length - (i + 1)) + 1 by omega, List.take_add_one, List.getElem?_reverse (by omega), show a.length - 1 - (a.length - (i + 1)) = i by omega, List.getElem?_eq_getElem hi, getD_get d hi]; rfl
    refine Tw.loopK [0, 1, 2, 3, 9] (fun p : Option Nat => match p with | none => True | some i => i < ns.length) (fun p => match p with | none => ns.length | some i => i)
      (fun p => match p with | none => [(13, .int .i64 ((ns.length : Int) - 1)), (11, .nils), (12, .nils)] | some i => [(13, .int .i64 ((i : Int) - 1)), (11, .sla 1 0 0 (ns.length - i)), (12, .sla 1 1 0 (ns.length - i))])
      (fun p => match p with | none => [] | some i => [some (.arr Es (ns.reverse.take (ns.length - i))), some (.arr Ei (ts.reverse.take (ts.length - i)))]) ⟨none, trivial, TWk.fcanon env [] (by rfl) ?_⟩ (fun p hp => ?_)
    · repeat' (first
        | with_reducible refine Tw.seq ?_
        | with_reducible refine Tw.reg ?_
        | with_reducible refine Tw.block ?_
        | with_reducible refine Tw.scope ?_
        | with_reducible refine Tw.skip ?_
        | with_reducible refine Tw.exit ?_
        | with_reducible refine Tw.ret ?_
        | with_reducible refine seqN ?_
        | with_reducible refine seqR ?_
        | with_reducible refine seqE ?_
        | with_reducible refine blkN ?_
        | with_reducible refine blkR ?_
        | with_reducible refine blkE1 ?_
        | with_reducible refine blkE0 (by kernel_rfl) ?_
        | with_reducible refine scpN ?_
        | with_reducible refine scpR ?_
        | with_reducible refine scpE ?_
        | with_reducible refine TOps.nil ?_
        | with_reducible exact Conj.nil
        | with_reducible refine Conj.cons rfl ?_
        | with_reducible refine Conj.same ?_
        | with_reducible refine Conj.ask ?_ ?_
        | ((with_reducible refine TOps.any ?_); refine TOps.frunP env (by rfl) (by rfl) ?_ ?_)
        | with_reducible refine Tw.regd env ?_
        | ((with_reducible refine TDr.any ?_); refine TDr.frunP env (by rfl) (by rfl) ?_ ?_)
        | with_reducible refine TDr.nil ⟨by kernel_rfl, ?_⟩
        | ((with_reducible refine TOps.any ?_); refine TOps.strip env (by rfl) (by rfl) ?_ ?_)
        | ((with_reducible refine TOps.any ?_); (fail_if_success refine TOps.known (by rfl) ?_); refine TOps.ask (by rfl) (fun h => ?_) (fun h => ?_) <;> (try simp only [Go.Lite.str_eq, decide_eq_true_eq, decide_eq_false_iff_not, Bool.or_eq_true, Bool.and_eq_true, Bool.or_eq_false_iff, Bool.and_eq_false_iff, Bool.not_eq_true', Bool.not_eq_false', Int.not_lt, Int.not_le, Int.toNat_natCast, Int.toNat_zero, cond_false, cond_true, Bool.not_not] at h) <;> (try simp only [rdi, rd2i, Int.toNat_natCast, Nat.add_zero] at h))
        | ((with_reducible refine TDr.any ?_); (fail_if_success refine TDr.known (by first | rfl | assumption) ?_); refine TDr.ask (by rfl) (fun h hk => ?_) (fun h => ?_) <;> (try simp only [Go.Lite.str_eq, decide_eq_true_eq, decide_eq_false_iff_not, Bool.or_eq_true, Bool.and_eq_true, Bool.or_eq_false_iff, Bool.and_eq_false_iff, Bool.not_eq_true', Bool.not_eq_false', Int.not_lt, Int.not_le, Int.toNat_natCast, Int.toNat_zero, cond_false, cond_true, Bool.not_not] at h) <;> (try simp only [rdi, rd2i, Int.toNat_natCast, Nat.add_zero] at h))
        | ((with_reducible refine Tw.any ?_); refine Tw.condT (by rfl) ?_)
        | ((with_reducible refine Tw.any ?_); refine Tw.condF (by rfl) ?_)
        | ((with_reducible refine Tw.any ?_); refine Tw.cond (by rfl) (fun h => ?_) (fun h => ?_) <;> (try simp only [Go.Lite.str_eq, decide_eq_true_eq, decide_eq_false_iff_not, Bool.or_eq_true, Bool.and_eq_true, Bool.or_eq_false_iff, Bool.and_eq_false_iff, Bool.not_eq_true', Bool.not_eq_false', Int.not_lt, Int.not_le, Int.toNat_natCast, Int.toNat_zero, cond_false, cond_true, Bool.not_not] at h) <;> (try simp only [rdi, rd2i, Int.toNat_natCast, Nat.add_zero] at h))
        | ((with_reducible refine tret.any ?_); first | refine tret.ok (by rfl) ?_ | refine tret.okN (by rfl) ?_)
        | ((with_reducible refine Due.mk ?_); (first | with_reducible rfl | omega | assumption | decide | ((try simp only [Go.Lite.str_eq, decide_eq_true_eq, decide_eq_false_iff_not, Bool.or_eq_true, Bool.and_eq_true, Bool.or_eq_false_iff, Bool.and_eq_false_iff, Bool.not_eq_true', Bool.not_eq_false', Int.not_lt, Int.not_le, Int.toNat_natCast, Int.toNat_zero, cond_false, cond_true, Bool.not_not] at *) <;> (try intro h) <;> (try intro h') <;> (try simp only [Go.Lite.str_eq, decide_eq_true_eq, decide_eq_false_iff_not, Bool.or_eq_true, Bool.and_eq_true, Bool.or_eq_false_iff, Bool.and_eq_false_iff, Bool.not_eq_true', Bool.not_eq_false', Int.not_lt, Int.not_le, Int.toNat_natCast, Int.toNat_zero, cond_false, cond_true, Bool.not_not] at *) <;> (try simp only [rdi, rd2i, Int.toNat_natCast, Nat.add_zero] at *) <;> (try simp only [rng]) <;> (first | assumption | omega)) | (exact due_app0 (by omega)) | (exact due_app (by omega)) | (intros; simp; done) | (intros; simp; omega)))
        | with_reducible refine Due.mk ?_
        | omega)
    rcases p with _ | i
    · dsimp only
      rcases Nat.eq_zero_or_pos ns.length with h0 | h0
      · obtain rfl : ns = [] := List.eq_nil_of_length_eq_zero h0
        obtain rfl : ts = [] := List.eq_nil_of_length_eq_zero htn
        repeat' (first
          | with_reducible refine Tw.seq ?_
          | with_reducible refine Tw.reg ?_
          | with_reducible refine Tw.block ?_
          | with_reducible refine Tw.scope ?_
          | with_reducible refine Tw.skip ?_
          | with_reducible refine Tw.exit ?_
          | with_reducible refine Tw.ret ?_
          | with_reducible refine seqN ?_
          | with_reducible refine seqR ?_
          | with_reducible refine seqE ?_
          | with_reducible refine blkN ?_
          | with_reducible refine blkR ?_
          | with_reducible refine blkE1 ?_
          | with_reducible refine blkE0 (by kernel_rfl) ?_
          | with_reducible refine scpN ?_
          | with_reducible refine scpR ?_
          | with_reducible refine scpE ?_
          | with_reducible refine TOps.nil ?_
          | with_reducible exact Conj.nil
          | with_reducible refine Conj.cons rfl ?_
          | with_reducible refine Conj.same ?_
          | with_reducible refine Conj.ask ?_ ?_
          | ((with_reducible refine TOps.any ?_); refine TOps.frunP env (by rfl) (by rfl) ?_ ?_)
          | with_reducible refine Tw.regd env ?_
          | ((with_reducible refine TDr.any ?_); refine TDr.frunP env (by rfl) (by rfl) ?_ ?_)
          | with_reducible refine TDr.nil ⟨by kernel_rfl, ?_⟩
          | ((with_reducible refine TOps.any ?_); refine TOps.strip env (by rfl) (by rfl) ?_ ?_)
          | ((with_reducible refine TOps.any ?_); (fail_if_success refine TOps.known (by rfl) ?_); refine TOps.ask (by rfl) (fun h => ?_) (fun h => ?_) <;> (try simp only [Go.Lite.str_eq, decide_eq_true_eq, decide_eq_false_iff_not, Bool.or_eq_true, Bool.and_eq_true, Bool.or_eq_false_iff, Bool.and_eq_false_iff, Bool.not_eq_true', Bool.not_eq_false', Int.not_lt, Int.not_le, Int.toNat_natCast, Int.toNat_zero, cond_false, cond_true, Bool.not_not] at h) <;> (try simp only [rdi, rd2i, Int.toNat_natCast, Nat.add_zero] at h) <;> (try (exfalso; (try simp only [and_true, true_and, or_false, false_or, not_true_eq_false, not_false_eq_true, decide_true, Bool.not_true, Bool.false_eq_true, reduceCtorEq] at h); first | assumption | omega | contradiction | (rcases h with ⟨_, _⟩ <;> first | contradiction | omega) | (rcases h with h | h <;> first | contradiction | omega))))
          | ((with_reducible refine TDr.any ?_); (fail_if_success refine TDr.known (by first | rfl | assumption) ?_); refine TDr.ask (by rfl) (fun h hk => ?_) (fun h => ?_) <;> (try simp only [Go.Lite.str_eq, decide_eq_true_eq, decide_eq_false_iff_not, Bool.or_eq_true, Bool.and_eq_true, Bool.or_eq_false_iff, Bool.and_eq_false_iff, Bool.not_eq_true', Bool.not_eq_false', Int.not_lt, Int.not_le, Int.toNat_natCast, Int.toNat_zero, cond_false, cond_true, Bool.not_not] at h) <;> (try simp only [rdi, rd2i, Int.toNat_natCast, Nat.add_zero] at h) <;> (try (exfalso; (try simp only [and_true, true_and, or_false, false_or, not_true_eq_false, not_false_eq_true, decide_true, Bool.not_true, Bool.false_eq_true, reduceCtorEq] at h); first | assumption | omega | contradiction | (rcases h with ⟨_, _⟩ <;> first | contradiction | omega) | (rcases h with h | h <;> first | contradiction | omega))))
          | ((with_reducible refine Tw.any ?_); refine Tw.condT (by rfl) ?_)
          | ((with_reducible refine Tw.any ?_); refine Tw.condF (by rfl) ?_)
          | ((with_reducible refine Tw.any ?_); refine Tw.cond (by rfl) (fun h => ?_) (fun h => ?_) <;> (try simp only [Go.Lite.str_eq, decide_eq_true_eq, decide_eq_false_iff_not, Bool.or_eq_true, Bool.and_eq_true, Bool.or_eq_false_iff, Bool.and_eq_false_iff, Bool.not_eq_true', Bool.not_eq_false', Int.not_lt, Int.not_le, Int.toNat_natCast, Int.toNat_zero, cond_false, cond_true, Bool.not_not] at h) <;> (try simp only [rdi, rd2i, Int.toNat_natCast, Nat.add_zero] at h) <;> (try (exfalso; (try simp only [and_true, true_and, or_false, false_or, not_true_eq_false, not_false_eq_true, decide_true, Bool.not_true, Bool.false_eq_true, reduceCtorEq] at h); first | assumption | omega | contradiction | (rcases h with ⟨_, _⟩ <;> first | contradiction | omega) | (rcases h with h | h <;> first | contradiction | omega))))
          | ((with_reducible refine tret.any ?_); first | refine tret.ok (by rfl) ?_ | refine tret.okN (by rfl) ?_)
          | ((with_reducible refine Due.mk ?_); (first | with_reducible rfl | omega | assumption | decide | ((try simp only [Go.Lite.str_eq, decide_eq_true_eq, decide_eq_false_iff_not, Bool.or_eq_true, Bool.and_eq_true, Bool.or_eq_false_iff, Bool.and_eq_false_iff, Bool.not_eq_true', Bool.not_eq_false', Int.not_lt, Int.not_le, Int.toNat_natCast, Int.toNat_zero, cond_false, cond_true, Bool.not_not] at *) <;> (try intro h) <;> (try intro h') <;> (try simp only [Go.Lite.str_eq, decide_eq_true_eq, decide_eq_false_iff_not, Bool.or_eq_true, Bool.and_eq_true, Bool.or_eq_false_iff, Bool.and_eq_false_iff, Bool.not_eq_true', Bool.not_eq_false', Int.not_lt, Int.not_le, Int.toNat_natCast, Int.toNat_zero, cond_false, cond_true, Bool.not_not] at *) <;> (try simp only [rdi, rd2i, Int.toNat_natCast, Nat.add_zero] at *) <;> (try simp only [rng]) <;> (first | assumption | omega)) | (exact due_app0 (by omega)) | (exact due_app (by omega)) | (intros; simp; done) | (intros; simp; omega)))
          | with_reducible refine Due.mk ?_
          | omega)
        refine TOps.weaken (TWk.fcanon env [] (F' := [(53, .lst Es6iL2iJLiJ l), (54, .lst Ei pr), (55, .lst Es []), (56, .lst Ei []), (9, .lst Ei q)]) (H' := []) (by rfl) ?_) ?_
        · repeat' (first
            | with_reducible refine Tw.seq ?_
            | with_reducible refine Tw.reg ?_
            | with_reducible refine Tw.block ?_
            | with_reducible refine Tw.scope ?_
            | with_reducible refine Tw.skip ?_
            | with_reducible refine Tw.exit ?_
            | with_reducible refine Tw.ret ?_
            | with_reducible refine seqN ?_
            | with_reducible refine seqR ?_
            | with_reducible refine seqE ?_
            | with_reducible refine blkN ?_
            | with_reducible refine blkR ?_
            | with_reducible refine blkE1 ?_
            | with_reducible refine blkE0 (by kernel_rfl) ?_
            | with_reducible refine scpN ?_
            | with_reducible refine scpR ?_
            | with_reducible refine scpE ?_
            | with_reducible refine TOps.nil ?_
            | with_reducible exact Conj.nil
            | with_reducible refine Conj.cons rfl ?_
            | with_reducible refine Conj.same ?_
            | with_reducible refine Conj.ask ?_ ?_
            | ((with_reducible refine TOps.any ?_); refine TOps.frunP env (by rfl) (by rfl) ?_ ?_)
            | with_reducible refine Tw.regd env ?_
            | ((with_reducible refine TDr.any ?_); refine TDr.frunP env (by rfl) (by rfl) ?_ ?_)
            | with_reducible refine TDr.nil ⟨by kernel_rfl, ?_⟩
            | ((with_reducible refine TOps.any ?_); refine TOps.strip env (by rfl) (by rfl) ?_ ?_)
            | ((with_reducible refine TOps.any ?_); (fail_if_success refine TOps.known (by rfl) ?_); refine TOps.ask (by rfl) (fun h => ?_) (fun h => ?_) <;> (try simp only [Go.Lite.str_eq, decide_eq_true_eq, decide_eq_false_iff_not, Bool.or_eq_true, Bool.and_eq_true, Bool.or_eq_false_iff, Bool.and_eq_false_iff, Bool.not_eq_true', Bool.not_eq_false', Int.not_lt, Int.not_le, Int.toNat_natCast, Int.toNat_zero, cond_false, cond_true, Bool.not_not] at h) <;> (try simp only [rdi, rd2i, Int.toNat_natCast, Nat.add_zero] at h))
            | ((with_reducible refine TDr.any ?_); (fail_if_success refine TDr.known (by first | rfl | assumption) ?_); refine TDr.ask (by rfl) (fun h hk => ?_) (fun h => ?_) <;> (try simp only [Go.Lite.str_eq, decide_eq_true_eq, decide_eq_false_iff_not, Bool.or_eq_true, Bool.and_eq_true, Bool.or_eq_false_iff, Bool.and_eq_false_iff, Bool.not_eq_true', Bool.not_eq_false', Int.not_lt, Int.not_le, Int.toNat_natCast, Int.toNat_zero, cond_false, cond_true, Bool.not_not] at h) <;> (try simp only [rdi, rd2i, Int.toNat_natCast, Nat.add_zero] at h))
            | ((with_reducible refine Tw.any ?_); refine Tw.condT (by rfl) ?_)
            | ((with_reducible refine Tw.any ?_); refine Tw.condF (by rfl) ?_)
            | ((with_reducible refine Tw.any ?_); refine Tw.cond (by rfl) (fun h => ?_) (fun h => ?_) <;> (try simp only [Go.Lite.str_eq, decide_eq_true_eq, decide_eq_false_iff_not, Bool.or_eq_true, Bool.and_eq_true, Bool.or_eq_false_iff, Bool.and_eq_false_iff, Bool.not_eq_true', Bool.not_eq_false', Int.not_lt, Int.not_le, Int.toNat_natCast, Int.toNat_zero, cond_false, cond_true, Bool.not_not] at h) <;> (try simp only [rdi, rd2i, Int.toNat_natCast, Nat.add_zero] at h))
            | ((with_reducible refine tret.any ?_); first | refine tret.ok (by rfl) ?_ | refine tret.okN (by rfl) ?_)
            | ((with_reducible refine Due.mk ?_); (first | with_reducible rfl | omega | assumption | decide | ((try simp only [Go.Lite.str_eq, decide_eq_true_eq, decide_eq_false_iff_not, Bool.or_eq_true, Bool.and_eq_true, Bool.or_eq_false_iff, Bool.and_eq_false_iff, Bool.not_eq_true', Bool.not_eq_false', Int.not_lt, Int.not_le, Int.toNat_natCast, Int.toNat_zero, cond_false, cond_true, Bool.not_not] at *) <;> (try intro h) <;> (try intro h') <;> (try simp only [Go.Lite.str_eq, decide_eq_true_eq, decide_eq_false_iff_not, Bool.or_eq_true, Bool.and_eq_true, Bool.or_eq_false_iff, Bool.and_eq_false_iff, Bool.not_eq_true', Bool.not_eq_false', Int.not_lt, Int.not_le, Int.toNat_natCast, Int.toNat_zero, cond_false, cond_true, Bool.not_not] at *) <;> (try simp only [rdi, rd2i, Int.toNat_natCast, Nat.add_zero] at *) <;> (try simp only [rng]) <;> (first | assumption | omega)) | (exact due_app0 (by omega)) | (exact due_app (by omega)) | (intros; simp; done) | (intros; simp; omega)))
            | with_reducible refine Due.mk ?_
            | omega)
        repeat' (first
          | ((with_reducible refine TOps.any ?_); refine TOps.callV env (by rfl) (by rfl) (by rfl) (y2) ?_)
          | ((with_reducible refine TOps.any ?_); refine TOps.callV env (by rfl) (by rfl) (by rfl) (s1) ?_)
          | with_reducible refine Tw.seq ?_
          | with_reducible refine Tw.reg ?_
          | with_reducible refine Tw.block ?_
          | with_reducible refine Tw.scope ?_
          | with_reducible refine Tw.skip ?_
          | with_reducible refine Tw.exit ?_
          | with_reducible refine Tw.ret ?_
          | with_reducible refine seqN ?_
          | with_reducible refine seqR ?_
          | with_reducible refine seqE ?_
          | with_reducible refine blkN ?_
          | with_reducible refine blkR ?_
          | with_reducible refine blkE1 ?_
          | with_reducible refine blkE0 (by kernel_rfl) ?_
          | with_reducible refine scpN ?_
          | with_reducible refine scpR ?_
          | with_reducible refine scpE ?_
          | with_reducible refine TOps.nil ?_
          | with_reducible exact Conj.nil
          | with_reducible refine Conj.cons rfl ?_
          | with_reducible refine Conj.same ?_
          | with_reducible refine Conj.ask ?_ ?_
          | ((with_reducible refine TOps.any ?_); refine TOps.frunP env (by rfl) (by rfl) ?_ ?_)
          | with_reducible refine Tw.regd env ?_
          | ((with_reducible refine TDr.any ?_); refine TDr.frunP env (by rfl) (by rfl) ?_ ?_)
          | with_reducible refine TDr.nil ⟨by kernel_rfl, ?_⟩
          | ((with_reducible refine TOps.any ?_); refine TOps.strip env (by rfl) (by rfl) ?_ ?_)
          | ((with_reducible refine TOps.any ?_); (fail_if_success refine TOps.known (by rfl) ?_); refine TOps.ask (by rfl) (fun h => ?_) (fun h => ?_) <;> (try simp only [Go.Lite.str_eq, decide_eq_true_eq, decide_eq_false_iff_not, Bool.or_eq_true, Bool.and_eq_true, Bool.or_eq_false_iff, Bool.and_eq_false_iff, Bool.not_eq_true', Bool.not_eq_false', Int.not_lt, Int.not_le, Int.toNat_natCast, Int.toNat_zero, cond_false, cond_true, Bool.not_not] at h) <;> (try simp only [rdi, rd2i, Int.toNat_natCast, Nat.add_zero] at h) <;> (try (exfalso; (try simp only [and_true, true_and, or_false, false_or, not_true_eq_false, not_false_eq_true, decide_true, Bool.not_true, Bool.false_eq_true, reduceCtorEq] at h); first | assumption | omega | contradiction | (rcases h with ⟨_, _⟩ <;> first | contradiction | omega) | (rcases h with h | h <;> first | contradiction | omega))))
          | ((with_reducible refine TDr.any ?_); (fail_if_success refine TDr.known (by first | rfl | assumption) ?_); refine TDr.ask (by rfl) (fun h hk => ?_) (fun h => ?_) <;> (try simp only [Go.Lite.str_eq, decide_eq_true_eq, decide_eq_false_iff_not, Bool.or_eq_true, Bool.and_eq_true, Bool.or_eq_false_iff, Bool.and_eq_false_iff, Bool.not_eq_true', Bool.not_eq_false', Int.not_lt, Int.not_le, Int.toNat_natCast, Int.toNat_zero, cond_false, cond_true, Bool.not_not] at h) <;> (try simp only [rdi, rd2i, Int.toNat_natCast, Nat.add_zero] at h) <;> (try (exfalso; (try simp only [and_true, true_and, or_false, false_or, not_true_eq_false, not_false_eq_true, decide_true, Bool.not_true, Bool.false_eq_true, reduceCtorEq] at h); first | assumption | omega | contradiction | (rcases h with ⟨_, _⟩ <;> first | contradiction | omega) | (rcases h with h | h <;> first | contradiction | omega))))
          | ((with_reducible refine Tw.any ?_); refine Tw.condT (by rfl) ?_)
          | ((with_reducible refine Tw.any ?_); refine Tw.condF (by rfl) ?_)
          | ((with_reducible refine Tw.any ?_); refine Tw.cond (by rfl) (fun h => ?_) (fun h => ?_) <;> (try simp only [Go.Lite.str_eq, decide_eq_true_eq, decide_eq_false_iff_not, Bool.or_eq_true, Bool.and_eq_true, Bool.or_eq_false_iff, Bool.and_eq_false_iff, Bool.not_eq_true', Bool.not_eq_false', Int.not_lt, Int.not_le, Int.toNat_natCast, Int.toNat_zero, cond_false, cond_true, Bool.not_not] at h) <;> (try simp only [rdi, rd2i, Int.toNat_natCast, Nat.add_zero] at h) <;> (try (exfalso; (try simp only [and_true, true_and, or_false, false_or, not_true_eq_false, not_false_eq_true, decide_true, Bool.not_true, Bool.false_eq_true, reduceCtorEq] at h); first | assumption | omega | contradiction | (rcases h with ⟨_, _⟩ <;> first | contradiction | omega) | (rcases h with h | h <;> first | contradiction | omega))))
          | ((with_reducible refine tret.any ?_); first | refine tret.ok (by rfl) ?_ | refine tret.okN (by rfl) ?_)
          | ((with_reducible refine Due.mk ?_); (first | with_reducible rfl | omega | assumption | decide | ((try simp only [Go.Lite.str_eq, decide_eq_true_eq, decide_eq_false_iff_not, Bool.or_eq_true, Bool.and_eq_true, Bool.or_eq_false_iff, Bool.and_eq_false_iff, Bool.not_eq_true', Bool.not_eq_false', Int.not_lt, Int.not_le, Int.toNat_natCast, Int.toNat_zero, cond_false, cond_true, Bool.not_not] at *) <;> (try intro h) <;> (try intro h') <;> (try simp only [Go.Lite.str_eq, decide_eq_true_eq, decide_eq_false_iff_not, Bool.or_eq_true, Bool.and_eq_true, Bool.or_eq_false_iff, Bool.and_eq_false_iff, Bool.not_eq_true', Bool.not_eq_false', Int.not_lt, Int.not_le, Int.toNat_natCast, Int.toNat_zero, cond_false, cond_true, Bool.not_not] at *) <;> (try simp only [rdi, rd2i, Int.toNat_natCast, Nat.add_zero] at *) <;> (try simp only [rng]) <;> (first | assumption | omega)) | (exact due_app0 (by omega)) | (exact due_app (by omega)) | (intros; simp; done) | (intros; simp; omega)))
          | with_reducible refine Due.mk ?_
          | omega)
        exact ⟨rfl, rfl, rfl⟩
      · obtain ⟨m, hm⟩ : ∃ m, ns.length = m + 1 := ⟨ns.length - 1, by omega⟩
        rw [show (ns.length : Int) - 1 = (m : Int) by omega]
        repeat' (first
          | with_reducible refine Tw.seq ?_
          | with_reducible refine Tw.reg ?_
          | with_reducible refine Tw.block ?_
          | with_reducible refine Tw.scope ?_
          | with_reducible refine Tw.skip ?_
          | with_reducible refine Tw.exit ?_
          | with_reducible refine Tw.ret ?_
          | with_reducible refine seqN ?_
          | with_reducible refine seqR ?_
          | with_reducible refine seqE ?_
          | with_reducible refine blkN ?_
          | with_reducible refine blkR ?_
          | with_reducible refine blkE1 ?_
          | with_reducible refine blkE0 (by kernel_rfl) ?_
          | with_reducible refine scpN ?_
          | with_reducible refine scpR ?_
          | with_reducible refine scpE ?_
          | with_reducible refine TOps.nil ?_
          | with_reducible exact Conj.nil
          | with_reducible refine Conj.cons rfl ?_
          | with_reducible refine Conj.same ?_
          | with_reducible refine Conj.ask ?_ ?_
          | ((with_reducible refine TOps.any ?_); refine TOps.frunP env (by rfl) (by rfl) ?_ ?_)
          | with_reducible refine Tw.regd env ?_
          | ((with_reducible refine TDr.any ?_); refine TDr.frunP env (by rfl) (by rfl) ?_ ?_)
          | with_reducible refine TDr.nil ⟨by kernel_rfl, ?_⟩
          | ((with_reducible refine TOps.any ?_); refine TOps.strip env (by rfl) (by rfl) ?_ ?_)
          | ((with_reducible refine TOps.any ?_); (fail_if_success refine TOps.known (by rfl) ?_); refine TOps.ask (by rfl) (fun h => ?_) (fun h => ?_) <;> (try simp only [Go.Lite.str_eq, decide_eq_true_eq, decide_eq_false_iff_not, Bool.or_eq_true, Bool.and_eq_true, Bool.or_eq_false_iff, Bool.and_eq_false_iff, Bool.not_eq_true', Bool.not_eq_false', Int.not_lt, Int.not_le, Int.toNat_natCast, Int.toNat_zero, cond_false, cond_true, Bool.not_not] at h) <;> (try simp only [rdi, rd2i, cut_one, List.length_singleton, Int.toNat_natCast, Nat.add_zero] at h) <;> (try (exfalso; (try simp only [and_true, true_and, or_false, false_or, not_true_eq_false, not_false_eq_true, decide_true, Bool.not_true, Bool.false_eq_true, reduceCtorEq] at h); first | assumption | omega | contradiction | (rcases h with ⟨_, _⟩ <;> first | contradiction | omega) | (rcases h with h | h <;> first | contradiction | omega))))
          | ((with_reducible refine TDr.any ?_); (fail_if_success refine TDr.known (by first | rfl | assumption) ?_); refine TDr.ask (by rfl) (fun h hk => ?_) (fun h => ?_) <;> (try simp only [Go.Lite.str_eq, decide_eq_true_eq, decide_eq_false_iff_not, Bool.or_eq_true, Bool.and_eq_true, Bool.or_eq_false_iff, Bool.and_eq_false_iff, Bool.not_eq_true', Bool.not_eq_false', Int.not_lt, Int.not_le, Int.toNat_natCast, Int.toNat_zero, cond_false, cond_true, Bool.not_not] at h) <;> (try simp only [rdi, rd2i, cut_one, List.length_singleton, Int.toNat_natCast, Nat.add_zero] at h) <;> (try (exfalso; (try simp only [and_true, true_and, or_false, false_or, not_true_eq_false, not_false_eq_true, decide_true, Bool.not_true, Bool.false_eq_true, reduceCtorEq] at h); first | assumption | omega | contradiction | (rcases h with ⟨_, _⟩ <;> first | contradiction | omega) | (rcases h with h | h <;> first | contradiction | omega))))
          | ((with_reducible refine Tw.any ?_); refine Tw.condT (by rfl) ?_)
          | ((with_reducible refine Tw.any ?_); refine Tw.condF (by rfl) ?_)
          | ((with_reducible refine Tw.any ?_); refine Tw.cond (by rfl) (fun h => ?_) (fun h => ?_) <;> (try simp only [Go.Lite.str_eq, decide_eq_true_eq, decide_eq_false_iff_not, Bool.or_eq_true, Bool.and_eq_true, Bool.or_eq_false_iff, Bool.and_eq_false_iff, Bool.not_eq_true', Bool.not_eq_false', Int.not_lt, Int.not_le, Int.toNat_natCast, Int.toNat_zero, cond_false, cond_true, Bool.not_not] at h) <;> (try simp only [rdi, rd2i, cut_one, List.length_singleton, Int.toNat_natCast, Nat.add_zero] at h) <;> (try (exfalso; (try simp only [and_true, true_and, or_false, false_or, not_true_eq_false, not_false_eq_true, decide_true, Bool.not_true, Bool.false_eq_true, reduceCtorEq] at h); first | assumption | omega | contradiction | (rcases h with ⟨_, _⟩ <;> first | contradiction | omega) | (rcases h with h | h <;> first | contradiction | omega))))
          | ((with_reducible refine tret.any ?_); first | refine tret.ok (by rfl) ?_ | refine tret.okN (by rfl) ?_)
          | ((with_reducible refine Due.mk ?_); (first | with_reducible rfl | omega | assumption | decide | ((try simp only [Go.Lite.str_eq, decide_eq_true_eq, decide_eq_false_iff_not, Bool.or_eq_true, Bool.and_eq_true, Bool.or_eq_false_iff, Bool.and_eq_false_iff, Bool.not_eq_true', Bool.not_eq_false', Int.not_lt, Int.not_le, Int.toNat_natCast, Int.toNat_zero, cond_false, cond_true, Bool.not_not] at *) <;> (try intro h) <;> (try intro h') <;> (try simp only [Go.Lite.str_eq, decide_eq_true_eq, decide_eq_false_iff_not, Bool.or_eq_true, Bool.and_eq_true, Bool.or_eq_false_iff, Bool.and_eq_false_iff, Bool.not_eq_true', Bool.not_eq_false', Int.not_lt, Int.not_le, Int.toNat_natCast, Int.toNat_zero, cond_false, cond_true, Bool.not_not] at *) <;> (try simp only [rdi, rd2i, cut_one, List.length_singleton, Int.toNat_natCast, Nat.add_zero] at *) <;> (try simp only [rng]) <;> (first | assumption | omega)) | (exact due_app0 (by omega)) | (exact due_app (by omega)) | (intros; simp; done) | (intros; simp; omega)))
          | with_reducible refine Due.mk ?_
          | omega)
        refine ⟨some m, by dsimp only; omega, by dsimp only; omega, TWk.fcanon env [some 1, some 3] (by rfl) ?_⟩
        have k1 := tk ns dB m (by omega)
        have k2 := tk ts 0 m (by omega)
        rw [show ns.length - (m + 1) = 0 by omega, List.take_zero, List.nil_append] at k1
        rw [show ts.length - (m + 1) = 0 by omega, List.take_zero, List.nil_append] at k2
        repeat' (first
          | with_reducible refine Tw.seq ?_
          | with_reducible refine Tw.reg ?_
          | with_reducible refine Tw.block ?_
          | with_reducible refine Tw.scope ?_
          | with_reducible refine Tw.skip ?_
          | with_reducible refine Tw.exit ?_
          | with_reducible refine Tw.ret ?_
          | with_reducible refine seqN ?_
          | with_reducible refine seqR ?_
          | with_reducible refine seqE ?_
          | with_reducible refine blkN ?_
          | with_reducible refine blkR ?_
          | with_reducible refine blkE1 ?_
          | with_reducible refine blkE0 (by kernel_rfl) ?_
          | with_reducible refine scpN ?_
          | with_reducible refine scpR ?_
          | with_reducible refine scpE ?_
          | with_reducible refine TOps.nil ?_
          | with_reducible exact Conj.nil
          | with_reducible refine Conj.cons rfl ?_
          | with_reducible refine Conj.same ?_
          | with_reducible refine Conj.ask ?_ ?_
          | ((with_reducible refine TOps.any ?_); refine TOps.frunP env (by rfl) (by rfl) ?_ ?_)
          | with_reducible refine Tw.regd env ?_
          | ((with_reducible refine TDr.any ?_); refine TDr.frunP env (by rfl) (by rfl) ?_ ?_)
          | with_reducible refine TDr.nil ⟨by kernel_rfl, ?_⟩
          | ((with_reducible refine TOps.any ?_); refine TOps.strip env (by rfl) (by rfl) ?_ ?_)
          | ((with_reducible refine TOps.any ?_); (fail_if_success refine TOps.known (by rfl) ?_); refine TOps.ask (by rfl) (fun h => ?_) (fun h => ?_) <;> (try simp only [Go.Lite.str_eq, decide_eq_true_eq, decide_eq_false_iff_not, Bool.or_eq_true, Bool.and_eq_true, Bool.or_eq_false_iff, Bool.and_eq_false_iff, Bool.not_eq_true', Bool.not_eq_false', Int.not_lt, Int.not_le, Int.toNat_natCast, Int.toNat_zero, cond_false, cond_true, Bool.not_not] at h) <;> (try simp only [rdi, rd2i, cut_one, List.length_singleton, Int.toNat_natCast, Nat.add_zero] at h))
          | ((with_reducible refine TDr.any ?_); (fail_if_success refine TDr.known (by first | rfl | assumption) ?_); refine TDr.ask (by rfl) (fun h hk => ?_) (fun h => ?_) <;> (try simp only [Go.Lite.str_eq, decide_eq_true_eq, decide_eq_false_iff_not, Bool.or_eq_true, Bool.and_eq_true, Bool.or_eq_false_iff, Bool.and_eq_false_iff, Bool.not_eq_true', Bool.not_eq_false', Int.not_lt, Int.not_le, Int.toNat_natCast, Int.toNat_zero, cond_false, cond_true, Bool.not_not] at h) <;> (try simp only [rdi, rd2i, cut_one, List.length_singleton, Int.toNat_natCast, Nat.add_zero] at h))
          | ((with_reducible refine Tw.any ?_); refine Tw.condT (by rfl) ?_)
          | ((with_reducible refine Tw.any ?_); refine Tw.condF (by rfl) ?_)
          | ((with_reducible refine Tw.any ?_); refine Tw.cond (by rfl) (fun h => ?_) (fun h => ?_) <;> (try simp only [Go.Lite.str_eq, decide_eq_true_eq, decide_eq_false_iff_not, Bool.or_eq_true, Bool.and_eq_true, Bool.or_eq_false_iff, Bool.and_eq_false_iff, Bool.not_eq_true', Bool.not_eq_false', Int.not_lt, Int.not_le, Int.toNat_natCast, Int.toNat_zero, cond_false, cond_true, Bool.not_not] at h) <;> (try simp only [rdi, rd2i, cut_one, List.length_singleton, Int.toNat_natCast, Nat.add_zero] at h))
          | ((with_reducible refine tret.any ?_); first | refine tret.ok (by rfl) ?_ | refine tret.okN (by rfl) ?_)
          | ((with_reducible refine Due.mk ?_); (first | with_reducible rfl | omega | assumption | decide | ((try simp only [Go.Lite.str_eq, decide_eq_true_eq, decide_eq_false_iff_not, Bool.or_eq_true, Bool.and_eq_true, Bool.or_eq_false_iff, Bool.and_eq_false_iff, Bool.not_eq_true', Bool.not_eq_false', Int.not_lt, Int.not_le, Int.toNat_natCast, Int.toNat_zero, cond_false, cond_true, Bool.not_not] at *) <;> (try intro h) <;> (try intro h') <;> (try simp only [Go.Lite.str_eq, decide_eq_true_eq, decide_eq_false_iff_not, Bool.or_eq_true, Bool.and_eq_true, Bool.or_eq_false_iff, Bool.and_eq_false_iff, Bool.not_eq_true', Bool.not_eq_false', Int.not_lt, Int.not_le, Int.toNat_natCast, Int.toNat_zero, cond_false, cond_true, Bool.not_not] at *) <;> (try simp only [rdi, rd2i, cut_one, List.length_singleton, Int.toNat_natCast, Nat.add_zero] at *) <;> (try simp only [rng]) <;> (first | assumption | omega)) | (exact due_app0 (by omega)) | (exact due_app (by omega)) | (intros; simp; done) | (intros; simp; omega)))
          | with_reducible refine Due.mk ?_
          | omega)
    · dsimp only at hp ⊢
      rcases i with _ | m
      · have k1 : ns.reverse.take (ns.length - 0) = ns.reverse := List.take_of_length_le (by simp)
        have k2 : ts.reverse.take (ts.length - 0) = ts.reverse := List.take_of_length_le (by simp)
        rw [k1, k2]
        repeat' (first
          | with_reducible refine Tw.seq ?_
          | with_reducible refine Tw.reg ?_
          | with_reducible refine Tw.block ?_
          | with_reducible refine Tw.scope ?_
          | with_reducible refine Tw.skip ?_
          | with_reducible refine Tw.exit ?_
          | with_reducible refine Tw.ret ?_
          | with_reducible refine seqN ?_
          | with_reducible refine seqR ?_
          | with_reducible refine seqE ?_
          | with_reducible refine blkN ?_
          | with_reducible refine blkR ?_
          | with_reducible refine blkE1 ?_
          | with_reducible refine blkE0 (by kernel_rfl) ?_
          | with_reducible refine scpN ?_
          | with_reducible refine scpR ?_
          | with_reducible refine scpE ?_
          | with_reducible refine TOps.nil ?_
          | with_reducible exact Conj.nil
          | with_reducible refine Conj.cons rfl ?_
          | with_reducible refine Conj.same ?_
          | with_reducible refine Conj.ask ?_ ?_
          | ((with_reducible refine TOps.any ?_); refine TOps.frunP env (by rfl) (by rfl) ?_ ?_)
          | with_reducible refine Tw.regd env ?_
          | ((with_reducible refine TDr.any ?_); refine TDr.frunP env (by rfl) (by rfl) ?_ ?_)
          | with_reducible refine TDr.nil ⟨by kernel_rfl, ?_⟩
          | ((with_reducible refine TOps.any ?_); refine TOps.strip env (by rfl) (by rfl) ?_ ?_)
          | ((with_reducible refine TOps.any ?_); (fail_if_success refine TOps.known (by rfl) ?_); refine TOps.ask (by rfl) (fun h => ?_) (fun h => ?_) <;> (try simp only [Go.Lite.str_eq, decide_eq_true_eq, decide_eq_false_iff_not, Bool.or_eq_true, Bool.and_eq_true, Bool.or_eq_false_iff, Bool.and_eq_false_iff, Bool.not_eq_true', Bool.not_eq_false', Int.not_lt, Int.not_le, Int.toNat_natCast, Int.toNat_zero, cond_false, cond_true, Bool.not_not] at h) <;> (try simp only [rdi, rd2i, Int.toNat_natCast, Nat.add_zero] at h) <;> (try (exfalso; (try simp only [and_true, true_and, or_false, false_or, not_true_eq_false, not_false_eq_true, decide_true, Bool.not_true, Bool.false_eq_true, reduceCtorEq] at h); first | assumption | omega | contradiction | (rcases h with ⟨_, _⟩ <;> first | contradiction | omega) | (rcases h with h | h <;> first | contradiction | omega))))
          | ((with_reducible refine TDr.any ?_); (fail_if_success refine TDr.known (by first | rfl | assumption) ?_); refine TDr.ask (by rfl) (fun h hk => ?_) (fun h => ?_) <;> (try simp only [Go.Lite.str_eq, decide_eq_true_eq, decide_eq_false_iff_not, Bool.or_eq_true, Bool.and_eq_true, Bool.or_eq_false_iff, Bool.and_eq_false_iff, Bool.not_eq_true', Bool.not_eq_false', Int.not_lt, Int.not_le, Int.toNat_natCast, Int.toNat_zero, cond_false, cond_true, Bool.not_not] at h) <;> (try simp only [rdi, rd2i, Int.toNat_natCast, Nat.add_zero] at h) <;> (try (exfalso; (try simp only [and_true, true_and, or_false, false_or, not_true_eq_false, not_false_eq_true, decide_true, Bool.not_true, Bool.false_eq_true, reduceCtorEq] at h); first | assumption | omega | contradiction | (rcases h with ⟨_, _⟩ <;> first | contradiction | omega) | (rcases h with h | h <;> first | contradiction | omega))))
          | ((with_reducible refine Tw.any ?_); refine Tw.condT (by rfl) ?_)
          | ((with_reducible refine Tw.any ?_); refine Tw.condF (by rfl) ?_)
          | ((with_reducible refine Tw.any ?_); refine Tw.cond (by rfl) (fun h => ?_) (fun h => ?_) <;> (try simp only [Go.Lite.str_eq, decide_eq_true_eq, decide_eq_false_iff_not, Bool.or_eq_true, Bool.and_eq_true, Bool.or_eq_false_iff, Bool.and_eq_false_iff, Bool.not_eq_true', Bool.not_eq_false', Int.not_lt, Int.not_le, Int.toNat_natCast, Int.toNat_zero, cond_false, cond_true, Bool.not_not] at h) <;> (try simp only [rdi, rd2i, Int.toNat_natCast, Nat.add_zero] at h) <;> (try (exfalso; (try simp only [and_true, true_and, or_false, false_or, not_true_eq_false, not_false_eq_true, decide_true, Bool.not_true, Bool.false_eq_true, reduceCtorEq] at h); first | assumption | omega | contradiction | (rcases h with ⟨_, _⟩ <;> first | contradiction | omega) | (rcases h with h | h <;> first | contradiction | omega))))
          | ((with_reducible refine tret.any ?_); first | refine tret.ok (by rfl) ?_ | refine tret.okN (by rfl) ?_)
          | ((with_reducible refine Due.mk ?_); (first | with_reducible rfl | omega | assumption | decide | ((try simp only [Go.Lite.str_eq, decide_eq_true_eq, decide_eq_false_iff_not, Bool.or_eq_true, Bool.and_eq_true, Bool.or_eq_false_iff, Bool.and_eq_false_iff, Bool.not_eq_true', Bool.not_eq_false', Int.not_lt, Int.not_le, Int.toNat_natCast, Int.toNat_zero, cond_false, cond_true, Bool.not_not] at *) <;> (try intro h) <;> (try intro h') <;> (try simp only [Go.Lite.str_eq, decide_eq_true_eq, decide_eq_false_iff_not, Bool.or_eq_true, Bool.and_eq_true, Bool.or_eq_false_iff, Bool.and_eq_false_iff, Bool.not_eq_true', Bool.not_eq_false', Int.not_lt, Int.not_le, Int.toNat_natCast, Int.toNat_zero, cond_false, cond_true, Bool.not_not] at *) <;> (try simp only [rdi, rd2i, Int.toNat_natCast, Nat.add_zero] at *) <;> (try simp only [rng]) <;> (first | assumption | omega)) | (exact due_app0 (by omega)) | (exact due_app (by omega)) | (intros; simp; done) | (intros; simp; omega)))
          | with_reducible refine Due.mk ?_
          | omega)
        refine TOps.frz env 0 (by rfl) (by rfl) (by rfl) ?_ ?_ ?_
        · repeat' (first
            | with_reducible refine Tw.seq ?_
            | with_reducible refine Tw.reg ?_
            | with_reducible refine Tw.block ?_
            | with_reducible refine Tw.scope ?_
            | with_reducible refine Tw.skip ?_
            | with_reducible refine Tw.exit ?_
            | with_reducible refine Tw.ret ?_
            | with_reducible refine seqN ?_
            | with_reducible refine seqR ?_
            | with_reducible refine seqE ?_
            | with_reducible refine blkN ?_
            | with_reducible refine blkR ?_
            | with_reducible refine blkE1 ?_
            | with_reducible refine blkE0 (by kernel_rfl) ?_
            | with_reducible refine scpN ?_
            | with_reducible refine scpR ?_
            | with_reducible refine scpE ?_
            | with_reducible refine TOps.nil ?_
            | with_reducible exact Conj.nil
            | with_reducible refine Conj.cons rfl ?_
            | with_reducible refine Conj.same ?_
            | with_reducible refine Conj.ask ?_ ?_
            | ((with_reducible refine TOps.any ?_); refine TOps.frunP env (by rfl) (by rfl) ?_ ?_)
            | with_reducible refine Tw.regd env ?_
            | ((with_reducible refine TDr.any ?_); refine TDr.frunP env (by rfl) (by rfl) ?_ ?_)
            | with_reducible refine TDr.nil ⟨by kernel_rfl, ?_⟩
            | ((with_reducible refine TOps.any ?_); refine TOps.strip env (by rfl) (by rfl) ?_ ?_)
            | ((with_reducible refine TOps.any ?_); (fail_if_success refine TOps.known (by rfl) ?_); refine TOps.ask (by rfl) (fun h => ?_) (fun h => ?_) <;> (try simp only [Go.Lite.str_eq, decide_eq_true_eq, decide_eq_false_iff_not, Bool.or_eq_true, Bool.and_eq_true, Bool.or_eq_false_iff, Bool.and_eq_false_iff, Bool.not_eq_true', Bool.not_eq_false', Int.not_lt, Int.not_le, Int.toNat_natCast, Int.toNat_zero, cond_false, cond_true, Bool.not_not] at h) <;> (try simp only [rdi, rd2i, Int.toNat_natCast, Nat.add_zero] at h))
            | ((with_reducible refine TDr.any ?_); (fail_if_success refine TDr.known (by first | rfl | assumption) ?_); refine TDr.ask (by rfl) (fun h hk => ?_) (fun h => ?_) <;> (try simp only [Go.Lite.str_eq, decide_eq_true_eq, decide_eq_false_iff_not, Bool.or_eq_true, Bool.and_eq_true, Bool.or_eq_false_iff, Bool.and_eq_false_iff, Bool.not_eq_true', Bool.not_eq_false', Int.not_lt, Int.not_le, Int.toNat_natCast, Int.toNat_zero, cond_false, cond_true, Bool.not_not] at h) <;> (try simp only [rdi, rd2i, Int.toNat_natCast, Nat.add_zero] at h))
            | ((with_reducible refine Tw.any ?_); refine Tw.condT (by rfl) ?_)
            | ((with_reducible refine Tw.any ?_); refine Tw.condF (by rfl) ?_)
            | ((with_reducible refine Tw.any ?_); refine Tw.cond (by rfl) (fun h => ?_) (fun h => ?_) <;> (try simp only [Go.Lite.str_eq, decide_eq_true_eq, decide_eq_false_iff_not, Bool.or_eq_true, Bool.and_eq_true, Bool.or_eq_false_iff, Bool.and_eq_false_iff, Bool.not_eq_true', Bool.not_eq_false', Int.not_lt, Int.not_le, Int.toNat_natCast, Int.toNat_zero, cond_false, cond_true, Bool.not_not] at h) <;> (try simp only [rdi, rd2i, Int.toNat_natCast, Nat.add_zero] at h))
            | ((with_reducible refine tret.any ?_); first | refine tret.ok (by rfl) ?_ | refine tret.okN (by rfl) ?_)
            | ((with_reducible refine Due.mk ?_); (first | with_reducible rfl | omega | assumption | decide | ((try simp only [Go.Lite.str_eq, decide_eq_true_eq, decide_eq_false_iff_not, Bool.or_eq_true, Bool.and_eq_true, Bool.or_eq_false_iff, Bool.and_eq_false_iff, Bool.not_eq_true', Bool.not_eq_false', Int.not_lt, Int.not_le, Int.toNat_natCast, Int.toNat_zero, cond_false, cond_true, Bool.not_not] at *) <;> (try intro h) <;> (try intro h') <;> (try simp only [Go.Lite.str_eq, decide_eq_true_eq, decide_eq_false_iff_not, Bool.or_eq_true, Bool.and_eq_true, Bool.or_eq_false_iff, Bool.and_eq_false_iff, Bool.not_eq_true', Bool.not_eq_false', Int.not_lt, Int.not_le, Int.toNat_natCast, Int.toNat_zero, cond_false, cond_true, Bool.not_not] at *) <;> (try simp only [rdi, rd2i, Int.toNat_natCast, Nat.add_zero] at *) <;> (try simp only [rng]) <;> (first | assumption | omega)) | (exact due_app0 (by omega)) | (exact due_app (by omega)) | (intros; simp; done) | (intros; simp; omega)))
            | with_reducible refine Due.mk ?_
            | omega)
          all_goals simp
        · repeat' (first
            | with_reducible refine Tw.seq ?_
            | with_reducible refine Tw.reg ?_
            | with_reducible refine Tw.block ?_
            | with_reducible refine Tw.scope ?_
            | with_reducible refine Tw.skip ?_
            | with_reducible refine Tw.exit ?_
            | with_reducible refine Tw.ret ?_
            | with_reducible refine seqN ?_
            | with_reducible refine seqR ?_
            | with_reducible refine seqE ?_
            | with_reducible refine blkN ?_
            | with_reducible refine blkR ?_
            | with_reducible refine blkE1 ?_
            | with_reducible refine blkE0 (by kernel_rfl) ?_
            | with_reducible refine scpN ?_
            | with_reducible refine scpR ?_
            | with_reducible refine scpE ?_
            | with_reducible refine TOps.nil ?_
            | with_reducible exact Conj.nil
            | with_reducible refine Conj.cons rfl ?_
            | with_reducible refine Conj.same ?_
            | with_reducible refine Conj.ask ?_ ?_
            | ((with_reducible refine TOps.any ?_); refine TOps.frunP env (by rfl) (by rfl) ?_ ?_)
            | with_reducible refine Tw.regd env ?_
            | ((with_reducible refine TDr.any ?_); refine TDr.frunP env (by rfl) (by rfl) ?_ ?_)
            | with_reducible refine TDr.nil ⟨by kernel_rfl, ?_⟩
            | ((with_reducible refine TOps.any ?_); refine TOps.strip env (by rfl) (by rfl) ?_ ?_)
            | ((with_reducible refine TOps.any ?_); (fail_if_success refine TOps.known (by rfl) ?_); refine TOps.ask (by rfl) (fun h => ?_) (fun h => ?_) <;> (try simp only [Go.Lite.str_eq, decide_eq_true_eq, decide_eq_false_iff_not, Bool.or_eq_true, Bool.and_eq_true, Bool.or_eq_false_iff, Bool.and_eq_false_iff, Bool.not_eq_true', Bool.not_eq_false', Int.not_lt, Int.not_le, Int.toNat_natCast, Int.toNat_zero, cond_false, cond_true, Bool.not_not] at h) <;> (try simp only [rdi, rd2i, Int.toNat_natCast, Nat.add_zero] at h))
            | ((with_reducible refine TDr.any ?_); (fail_if_success refine TDr.known (by first | rfl | assumption) ?_); refine TDr.ask (by rfl) (fun h hk => ?_) (fun h => ?_) <;> (try simp only [Go.Lite.str_eq, decide_eq_true_eq, decide_eq_false_iff_not, Bool.or_eq_true, Bool.and_eq_true, Bool.or_eq_false_iff, Bool.and_eq_false_iff, Bool.not_eq_true', Bool.not_eq_false', Int.not_lt, Int.not_le, Int.toNat_natCast, Int.toNat_zero, cond_false, cond_true, Bool.not_not] at h) <;> (try simp only [rdi, rd2i, Int.toNat_natCast, Nat.add_zero] at h))
            | ((with_reducible refine Tw.any ?_); refine Tw.condT (by rfl) ?_)
            | ((with_reducible refine Tw.any ?_); refine Tw.condF (by rfl) ?_)
            | ((with_reducible refine Tw.any ?_); refine Tw.cond (by rfl) (fun h => ?_) (fun h => ?_) <;> (try simp only [Go.Lite.str_eq, decide_eq_true_eq, decide_eq_false_iff_not, Bool.or_eq_true, Bool.and_eq_true, Bool.or_eq_false_iff, Bool.and_eq_false_iff, Bool.not_eq_true', Bool.not_eq_false', Int.not_lt, Int.not_le, Int.toNat_natCast, Int.toNat_zero, cond_false, cond_true, Bool.not_not] at h) <;> (try simp only [rdi, rd2i, Int.toNat_natCast, Nat.add_zero] at h))
            | ((with_reducible refine tret.any ?_); first | refine tret.ok (by rfl) ?_ | refine tret.okN (by rfl) ?_)
            | ((with_reducible refine Due.mk ?_); (first | with_reducible rfl | omega | assumption | decide | ((try simp only [Go.Lite.str_eq, decide_eq_true_eq, decide_eq_false_iff_not, Bool.or_eq_true, Bool.and_eq_true, Bool.or_eq_false_iff, Bool.and_eq_false_iff, Bool.not_eq_true', Bool.not_eq_false', Int.not_lt, Int.not_le, Int.toNat_natCast, Int.toNat_zero, cond_false, cond_true, Bool.not_not] at *) <;> (try intro h) <;> (try intro h') <;> (try simp only [Go.Lite.str_eq, decide_eq_true_eq, decide_eq_false_iff_not, Bool.or_eq_true, Bool.and_eq_true, Bool.or_eq_false_iff, Bool.and_eq_false_iff, Bool.not_eq_true', Bool.not_eq_false', Int.not_lt, Int.not_le, Int.toNat_natCast, Int.toNat_zero, cond_false, cond_true, Bool.not_not] at *) <;> (try simp only [rdi, rd2i, Int.toNat_natCast, Nat.add_zero] at *) <;> (try simp only [rng]) <;> (first | assumption | omega)) | (exact due_app0 (by omega)) | (exact due_app (by omega)) | (intros; simp; done) | (intros; simp; omega)))
            | with_reducible refine Due.mk ?_
            | omega)
        refine TOps.frz env 1 (by rfl) (by rfl) (by rfl) ?_ ?_ ?_
        · repeat' (first
            | with_reducible refine Tw.seq ?_
            | with_reducible refine Tw.reg ?_
            | with_reducible refine Tw.block ?_
            | with_reducible refine Tw.scope ?_
            | with_reducible refine Tw.skip ?_
            | with_reducible refine Tw.exit ?_
            | with_reducible refine Tw.ret ?_
            | with_reducible refine seqN ?_
            | with_reducible refine seqR ?_
            | with_reducible refine seqE ?_
            | with_reducible refine blkN ?_
            | with_reducible refine blkR ?_
            | with_reducible refine blkE1 ?_
            | with_reducible refine blkE0 (by kernel_rfl) ?_
            | with_reducible refine scpN ?_
            | with_reducible refine scpR ?_
            | with_reducible refine scpE ?_
            | with_reducible refine TOps.nil ?_
            | with_reducible exact Conj.nil
            | with_reducible refine Conj.cons rfl ?_
            | with_reducible refine Conj.same ?_
            | with_reducible refine Conj.ask ?_ ?_
            | ((with_reducible refine TOps.any ?_); refine TOps.frunP env (by rfl) (by rfl) ?_ ?_)
            | with_reducible refine Tw.regd env ?_
            | ((with_reducible refine TDr.any ?_); refine TDr.frunP env (by rfl) (by rfl) ?_ ?_)
            | with_reducible refine TDr.nil ⟨by kernel_rfl, ?_⟩
            | ((with_reducible refine TOps.any ?_); refine TOps.strip env (by rfl) (by rfl) ?_ ?_)
            | ((with_reducible refine TOps.any ?_); (fail_if_success refine TOps.known (by rfl) ?_); refine TOps.ask (by rfl) (fun h => ?_) (fun h => ?_) <;> (try simp only [Go.Lite.str_eq, decide_eq_true_eq, decide_eq_false_iff_not, Bool.or_eq_true, Bool.and_eq_true, Bool.or_eq_false_iff, Bool.and_eq_false_iff, Bool.not_eq_true', Bool.not_eq_false', Int.not_lt, Int.not_le, Int.toNat_natCast, Int.toNat_zero, cond_false, cond_true, Bool.not_not] at h) <;> (try simp only [rdi, rd2i, Int.toNat_natCast, Nat.add_zero] at h))
            | ((with_reducible refine TDr.any ?_); (fail_if_success refine TDr.known (by first | rfl | assumption) ?_); refine TDr.ask (by rfl) (fun h hk => ?_) (fun h => ?_) <;> (try simp only [Go.Lite.str_eq, decide_eq_true_eq, decide_eq_false_iff_not, Bool.or_eq_true, Bool.and_eq_true, Bool.or_eq_false_iff, Bool.and_eq_false_iff, Bool.not_eq_true', Bool.not_eq_false', Int.not_lt, Int.not_le, Int.toNat_natCast, Int.toNat_zero, cond_false, cond_true, Bool.not_not] at h) <;> (try simp only [rdi, rd2i, Int.toNat_natCast, Nat.add_zero] at h))
            | ((with_reducible refine Tw.any ?_); refine Tw.condT (by rfl) ?_)
            | ((with_reducible refine Tw.any ?_); refine Tw.condF (by rfl) ?_)
            | ((with_reducible refine Tw.any ?_); refine Tw.cond (by rfl) (fun h => ?_) (fun h => ?_) <;> (try simp only [Go.Lite.str_eq, decide_eq_true_eq, decide_eq_false_iff_not, Bool.or_eq_true, Bool.and_eq_true, Bool.or_eq_false_iff, Bool.and_eq_false_iff, Bool.not_eq_true', Bool.not_eq_false', Int.not_lt, Int.not_le, Int.toNat_natCast, Int.toNat_zero, cond_false, cond_true, Bool.not_not] at h) <;> (try simp only [rdi, rd2i, Int.toNat_natCast, Nat.add_zero] at h))
            | ((with_reducible refine tret.any ?_); first | refine tret.ok (by rfl) ?_ | refine tret.okN (by rfl) ?_)
            | ((with_reducible refine Due.mk ?_); (first | with_reducible rfl | omega | assumption | decide | ((try simp only [Go.Lite.str_eq, decide_eq_true_eq, decide_eq_false_iff_not, Bool.or_eq_true, Bool.and_eq_true, Bool.or_eq_false_iff, Bool.and_eq_false_iff, Bool.not_eq_true', Bool.not_eq_false', Int.not_lt, Int.not_le, Int.toNat_natCast, Int.toNat_zero, cond_false, cond_true, Bool.not_not] at *) <;> (try intro h) <;> (try intro h') <;> (try simp only [Go.Lite.str_eq, decide_eq_true_eq, decide_eq_false_iff_not, Bool.or_eq_true, Bool.and_eq_true, Bool.or_eq_false_iff, Bool.and_eq_false_iff, Bool.not_eq_true', Bool.not_eq_false', Int.not_lt, Int.not_le, Int.toNat_natCast, Int.toNat_zero, cond_false, cond_true, Bool.not_not] at *) <;> (try simp only [rdi, rd2i, Int.toNat_natCast, Nat.add_zero] at *) <;> (try simp only [rng]) <;> (first | assumption | omega)) | (exact due_app0 (by omega)) | (exact due_app (by omega)) | (intros; simp; done) | (intros; simp; omega)))
            | with_reducible refine Due.mk ?_
            | omega)
          all_goals (simp <;> omega)
        · repeat' (first
            | with_reducible refine Tw.seq ?_
            | with_reducible refine Tw.reg ?_
            | with_reducible refine Tw.block ?_
            | with_reducible refine Tw.scope ?_
            | with_reducible refine Tw.skip ?_
            | with_reducible refine Tw.exit ?_
            | with_reducible refine Tw.ret ?_
            | with_reducible refine seqN ?_
            | with_reducible refine seqR ?_
            | with_reducible refine seqE ?_
            | with_reducible refine blkN ?_
            | with_reducible refine blkR ?_
            | with_reducible refine blkE1 ?_
            | with_reducible refine blkE0 (by kernel_rfl) ?_
            | with_reducible refine scpN ?_
            | with_reducible refine scpR ?_
            | with_reducible refine scpE ?_
            | with_reducible refine TOps.nil ?_
            | with_reducible exact Conj.nil
            | with_reducible refine Conj.cons rfl ?_
            | with_reducible refine Conj.same ?_
            | with_reducible refine Conj.ask ?_ ?_
            | ((with_reducible refine TOps.any ?_); refine TOps.frunP env (by rfl) (by rfl) ?_ ?_)
            | with_reducible refine Tw.regd env ?_
            | ((with_reducible refine TDr.any ?_); refine TDr.frunP env (by rfl) (by rfl) ?_ ?_)
            | with_reducible refine TDr.nil ⟨by kernel_rfl, ?_⟩
            | ((with_reducible refine TOps.any ?_); refine TOps.strip env (by rfl) (by rfl) ?_ ?_)
            | ((with_reducible refine TOps.any ?_); (fail_if_success refine TOps.known (by rfl) ?_); refine TOps.ask (by rfl) (fun h => ?_) (fun h => ?_) <;> (try simp only [Go.Lite.str_eq, decide_eq_true_eq, decide_eq_false_iff_not, Bool.or_eq_true, Bool.and_eq_true, Bool.or_eq_false_iff, Bool.and_eq_false_iff, Bool.not_eq_true', Bool.not_eq_false', Int.not_lt, Int.not_le, Int.toNat_natCast, Int.toNat_zero, cond_false, cond_true, Bool.not_not] at h) <;> (try simp only [rdi, rd2i, Int.toNat_natCast, Nat.add_zero] at h))
            | ((with_reducible refine TDr.any ?_); (fail_if_success refine TDr.known (by first | rfl | assumption) ?_); refine TDr.ask (by rfl) (fun h hk => ?_) (fun h => ?_) <;> (try simp only [Go.Lite.str_eq, decide_eq_true_eq, decide_eq_false_iff_not, Bool.or_eq_true, Bool.and_eq_true, Bool.or_eq_false_iff, Bool.and_eq_false_iff, Bool.not_eq_true', Bool.not_eq_false', Int.not_lt, Int.not_le, Int.toNat_natCast, Int.toNat_zero, cond_false, cond_true, Bool.not_not] at h) <;> (try simp only [rdi, rd2i, Int.toNat_natCast, Nat.add_zero] at h))
            | ((with_reducible refine Tw.any ?_); refine Tw.condT (by rfl) ?_)
            | ((with_reducible refine Tw.any ?_); refine Tw.condF (by rfl) ?_)
            | ((with_reducible refine Tw.any ?_); refine Tw.cond (by rfl) (fun h => ?_) (fun h => ?_) <;> (try simp only [Go.Lite.str_eq, decide_eq_true_eq, decide_eq_false_iff_not, Bool.or_eq_true, Bool.and_eq_true, Bool.or_eq_false_iff, Bool.and_eq_false_iff, Bool.not_eq_true', Bool.not_eq_false', Int.not_lt, Int.not_le, Int.toNat_natCast, Int.toNat_zero, cond_false, cond_true, Bool.not_not] at h) <;> (try simp only [rdi, rd2i, Int.toNat_natCast, Nat.add_zero] at h))
            | ((with_reducible refine tret.any ?_); first | refine tret.ok (by rfl) ?_ | refine tret.okN (by rfl) ?_)
            | ((with_reducible refine Due.mk ?_); (first | with_reducible rfl | omega | assumption | decide | ((try simp only [Go.Lite.str_eq, decide_eq_true_eq, decide_eq_false_iff_not, Bool.or_eq_true, Bool.and_eq_true, Bool.or_eq_false_iff, Bool.and_eq_false_iff, Bool.not_eq_true', Bool.not_eq_false', Int.not_lt, Int.not_le, Int.toNat_natCast, Int.toNat_zero, cond_false, cond_true, Bool.not_not] at *) <;> (try intro h) <;> (try intro h') <;> (try simp only [Go.Lite.str_eq, decide_eq_true_eq, decide_eq_false_iff_not, Bool.or_eq_true, Bool.and_eq_true, Bool.or_eq_false_iff, Bool.and_eq_false_iff, Bool.not_eq_true', Bool.not_eq_false', Int.not_lt, Int.not_le, Int.toNat_natCast, Int.toNat_zero, cond_false, cond_true, Bool.not_not] at *) <;> (try simp only [rdi, rd2i, Int.toNat_natCast, Nat.add_zero] at *) <;> (try simp only [rng]) <;> (first | assumption | omega)) | (exact due_app0 (by omega)) | (exact due_app (by omega)) | (intros; simp; done) | (intros; simp; omega)))
            | with_reducible refine Due.mk ?_
            | omega)
        rw [cut_all (xs := ns.reverse) (n := ns.length - 0) (by simp), cut_all (xs := ts.reverse) (n := ns.length - 0) (by simp [htn])]
        repeat' (first
          | ((with_reducible refine TOps.any ?_); refine TOps.callV env (by rfl) (by rfl) (by rfl) (y2) ?_)
          | ((with_reducible refine TOps.any ?_); refine TOps.callV env (by rfl) (by rfl) (by rfl) (s1) ?_)
          | with_reducible refine Tw.seq ?_
          | with_reducible refine Tw.reg ?_
          | with_reducible refine Tw.block ?_
          | with_reducible refine Tw.scope ?_
          | with_reducible refine Tw.skip ?_
          | with_reducible refine Tw.exit ?_
          | with_reducible refine Tw.ret ?_
          | with_reducible refine seqN ?_
          | with_reducible refine seqR ?_
          | with_reducible refine seqE ?_
          | with_reducible refine blkN ?_
          | with_reducible refine blkR ?_
          | with_reducible refine blkE1 ?_
          | with_reducible refine blkE0 (by kernel_rfl) ?_
          | with_reducible refine scpN ?_
          | with_reducible refine scpR ?_
          | with_reducible refine scpE ?_
          | with_reducible refine TOps.nil ?_
          | with_reducible exact Conj.nil
          | with_reducible refine Conj.cons rfl ?_
          | with_reducible refine Conj.same ?_
          | with_reducible refine Conj.ask ?_ ?_
          | ((with_reducible refine TOps.any ?_); refine TOps.frunP env (by rfl) (by rfl) ?_ ?_)
          | with_reducible refine Tw.regd env ?_
          | ((with_reducible refine TDr.any ?_); refine TDr.frunP env (by rfl) (by rfl) ?_ ?_)
          | with_reducible refine TDr.nil ⟨by kernel_rfl, ?_⟩
          | ((with_reducible refine TOps.any ?_); refine TOps.strip env (by rfl) (by rfl) ?_ ?_)
          | ((with_reducible refine TOps.any ?_); (fail_if_success refine TOps.known (by rfl) ?_); refine TOps.ask (by rfl) (fun h => ?_) (fun h => ?_) <;> (try simp only [Go.Lite.str_eq, decide_eq_true_eq, decide_eq_false_iff_not, Bool.or_eq_true, Bool.and_eq_true, Bool.or_eq_false_iff, Bool.and_eq_false_iff, Bool.not_eq_true', Bool.not_eq_false', Int.not_lt, Int.not_le, Int.toNat_natCast, Int.toNat_zero, cond_false, cond_true, Bool.not_not] at h) <;> (try simp only [rdi, rd2i, Int.toNat_natCast, Nat.add_zero] at h) <;> (try (exfalso; (try simp only [and_true, true_and, or_false, false_or, not_true_eq_false, not_false_eq_true, decide_true, Bool.not_true, Bool.false_eq_true, reduceCtorEq] at h); first | assumption | omega | contradiction | (rcases h with ⟨_, _⟩ <;> first | contradiction | omega) | (rcases h with h | h <;> first | contradiction | omega))))
          | ((with_reducible refine TDr.any ?_); (fail_if_success refine TDr.known (by first | rfl | assumption) ?_); refine TDr.ask (by rfl) (fun h hk => ?_) (fun h => ?_) <;> (try simp only [Go.Lite.str_eq, decide_eq_true_eq, decide_eq_false_iff_not, Bool.or_eq_true, Bool.and_eq_true, Bool.or_eq_false_iff, Bool.and_eq_false_iff, Bool.not_eq_true', Bool.not_eq_false', Int.not_lt, Int.not_le, Int.toNat_natCast, Int.toNat_zero, cond_false, cond_true, Bool.not_not] at h) <;> (try simp only [rdi, rd2i, Int.toNat_natCast, Nat.add_zero] at h) <;> (try (exfalso; (try simp only [and_true, true_and, or_false, false_or, not_true_eq_false, not_false_eq_true, decide_true, Bool.not_true, Bool.false_eq_true, reduceCtorEq] at h); first | assumption | omega | contradiction | (rcases h with ⟨_, _⟩ <;> first | contradiction | omega) | (rcases h with h | h <;> first | contradiction | omega))))
          | ((with_reducible refine Tw.any ?_); refine Tw.condT (by rfl) ?_)
          | ((with_reducible refine Tw.any ?_); refine Tw.condF (by rfl) ?_)
          | ((with_reducible refine Tw.any ?_); refine Tw.cond (by rfl) (fun h => ?_) (fun h => ?_) <;> (try simp only [Go.Lite.str_eq, decide_eq_true_eq, decide_eq_false_iff_not, Bool.or_eq_true, Bool.and_eq_true, Bool.or_eq_false_iff, Bool.and_eq_false_iff, Bool.not_eq_true', Bool.not_eq_false', Int.not_lt, Int.not_le, Int.toNat_natCast, Int.toNat_zero, cond_false, cond_true, Bool.not_not] at h) <;> (try simp only [rdi, rd2i, Int.toNat_natCast, Nat.add_zero] at h) <;> (try (exfalso; (try simp only [and_true, true_and, or_false, false_or, not_true_eq_false, not_false_eq_true, decide_true, Bool.not_true, Bool.false_eq_true, reduceCtorEq] at h); first | assumption | omega | contradiction | (rcases h with ⟨_, _⟩ <;> first | contradiction | omega) | (rcases h with h | h <;> first | contradiction | omega))))
          | ((with_reducible refine tret.any ?_); first | refine tret.ok (by rfl) ?_ | refine tret.okN (by rfl) ?_)
          | ((with_reducible refine Due.mk ?_); (first | with_reducible rfl | omega | assumption | decide | ((try simp only [Go.Lite.str_eq, decide_eq_true_eq, decide_eq_false_iff_not, Bool.or_eq_true, Bool.and_eq_true, Bool.or_eq_false_iff, Bool.and_eq_false_iff, Bool.not_eq_true', Bool.not_eq_false', Int.not_lt, Int.not_le, Int.toNat_natCast, Int.toNat_zero, cond_false, cond_true, Bool.not_not] at *) <;> (try intro h) <;> (try intro h') <;> (try simp only [Go.Lite.str_eq, decide_eq_true_eq, decide_eq_false_iff_not, Bool.or_eq_true, Bool.and_eq_true, Bool.or_eq_false_iff, Bool.and_eq_false_iff, Bool.not_eq_true', Bool.not_eq_false', Int.not_lt, Int.not_le, Int.toNat_natCast, Int.toNat_zero, cond_false, cond_true, Bool.not_not] at *) <;> (try simp only [rdi, rd2i, Int.toNat_natCast, Nat.add_zero] at *) <;> (try simp only [rng]) <;> (first | assumption | omega)) | (exact due_app0 (by omega)) | (exact due_app (by omega)) | (intros; simp; done) | (intros; simp; omega)))
          | with_reducible refine Due.mk ?_
          | omega)
        exact ⟨rfl, rfl, rfl⟩
      · rw [show ((m + 1 : Nat) : Int) - 1 = (m : Int) by omega]
        have k1 := tk ns dB m (by omega)
        have k2 := tk ts 0 m (by omega)
        have l1 : (ns.reverse.take (ns.length - (m + 1))).length = ns.length - (m + 1) := by simp
        have l2 : (ts.reverse.take (ts.length - (m + 1))).length = ns.length - (m + 1) := by simp <;> omega
        generalize ns.reverse.take (ns.length - (m + 1)) = a at *
        generalize ts.reverse.take (ts.length - (m + 1)) = b at *
        repeat' (first
          | with_reducible refine Tw.seq ?_
          | with_reducible refine Tw.reg ?_
          | with_reducible refine Tw.block ?_
          | with_reducible refine Tw.scope ?_
          | with_reducible refine Tw.skip ?_
          | with_reducible refine Tw.exit ?_
          | with_reducible refine Tw.ret ?_
          | with_reducible refine seqN ?_
          | with_reducible refine seqR ?_
          | with_reducible refine seqE ?_
          | with_reducible refine blkN ?_
          | with_reducible refine blkR ?_
          | with_reducible refine blkE1 ?_
          | with_reducible refine blkE0 (by kernel_rfl) ?_
          | with_reducible refine scpN ?_
          | with_reducible refine scpR ?_
          | with_reducible refine scpE ?_
          | with_reducible refine TOps.nil ?_
          | with_reducible exact Conj.nil
          | with_reducible refine Conj.cons rfl ?_
          | with_reducible refine Conj.same ?_
          | with_reducible refine Conj.ask ?_ ?_
          | ((with_reducible refine TOps.any ?_); refine TOps.frunP env (by rfl) (by rfl) ?_ ?_)
          | with_reducible refine Tw.regd env ?_
          | ((with_reducible refine TDr.any ?_); refine TDr.frunP env (by rfl) (by rfl) ?_ ?_)
          | with_reducible refine TDr.nil ⟨by kernel_rfl, ?_⟩
          | ((with_reducible refine TOps.any ?_); refine TOps.strip env (by rfl) (by rfl) ?_ ?_)
          | ((with_reducible refine TOps.any ?_); (fail_if_success refine TOps.known (by rfl) ?_); refine TOps.ask (by rfl) (fun h => ?_) (fun h => ?_) <;> (try simp only [Go.Lite.str_eq, decide_eq_true_eq, decide_eq_false_iff_not, Bool.or_eq_true, Bool.and_eq_true, Bool.or_eq_false_iff, Bool.and_eq_false_iff, Bool.not_eq_true', Bool.not_eq_false', Int.not_lt, Int.not_le, Int.toNat_natCast, Int.toNat_zero, cond_false, cond_true, Bool.not_not] at h) <;> (try simp only [rdi, rd2i, cut_one, List.length_singleton, Int.toNat_natCast, Nat.add_zero] at h) <;> (try (exfalso; (try simp only [and_true, true_and, or_false, false_or, not_true_eq_false, not_false_eq_true, decide_true, Bool.not_true, Bool.false_eq_true, reduceCtorEq] at h); first | assumption | omega | contradiction | (rcases h with ⟨_, _⟩ <;> first | contradiction | omega) | (rcases h with h | h <;> first | contradiction | omega))))
          | ((with_reducible refine TDr.any ?_); (fail_if_success refine TDr.known (by first | rfl | assumption) ?_); refine TDr.ask (by rfl) (fun h hk => ?_) (fun h => ?_) <;> (try simp only [Go.Lite.str_eq, decide_eq_true_eq, decide_eq_false_iff_not, Bool.or_eq_true, Bool.and_eq_true, Bool.or_eq_false_iff, Bool.and_eq_false_iff, Bool.not_eq_true', Bool.not_eq_false', Int.not_lt, Int.not_le, Int.toNat_natCast, Int.toNat_zero, cond_false, cond_true, Bool.not_not] at h) <;> (try simp only [rdi, rd2i, cut_one, List.length_singleton, Int.toNat_natCast, Nat.add_zero] at h) <;> (try (exfalso; (try simp only [and_true, true_and, or_false, false_or, not_true_eq_false, not_false_eq_true, decide_true, Bool.not_true, Bool.false_eq_true, reduceCtorEq] at h); first | assumption | omega | contradiction | (rcases h with ⟨_, _⟩ <;> first | contradiction | omega) | (rcases h with h | h <;> first | contradiction | omega))))
          | ((with_reducible refine Tw.any ?_); refine Tw.condT (by rfl) ?_)
          | ((with_reducible refine Tw.any ?_); refine Tw.condF (by rfl) ?_)
          | ((with_reducible refine Tw.any ?_); refine Tw.cond (by rfl) (fun h => ?_) (fun h => ?_) <;> (try simp only [Go.Lite.str_eq, decide_eq_true_eq, decide_eq_false_iff_not, Bool.or_eq_true, Bool.and_eq_true, Bool.or_eq_false_iff, Bool.and_eq_false_iff, Bool.not_eq_true', Bool.not_eq_false', Int.not_lt, Int.not_le, Int.toNat_natCast, Int.toNat_zero, cond_false, cond_true, Bool.not_not] at h) <;> (try simp only [rdi, rd2i, cut_one, List.length_singleton, Int.toNat_natCast, Nat.add_zero] at h) <;> (try (exfalso; (try simp only [and_true, true_and, or_false, false_or, not_true_eq_false, not_false_eq_true, decide_true, Bool.not_true, Bool.false_eq_true, reduceCtorEq] at h); first | assumption | omega | contradiction | (rcases h with ⟨_, _⟩ <;> first | contradiction | omega) | (rcases h with h | h <;> first | contradiction | omega))))
          | ((with_reducible refine tret.any ?_); first | refine tret.ok (by rfl) ?_ | refine tret.okN (by rfl) ?_)
          | ((with_reducible refine Due.mk ?_); (first | with_reducible rfl | omega | assumption | decide | ((try simp only [Go.Lite.str_eq, decide_eq_true_eq, decide_eq_false_iff_not, Bool.or_eq_true, Bool.and_eq_true, Bool.or_eq_false_iff, Bool.and_eq_false_iff, Bool.not_eq_true', Bool.not_eq_false', Int.not_lt, Int.not_le, Int.toNat_natCast, Int.toNat_zero, cond_false, cond_true, Bool.not_not] at *) <;> (try intro h) <;> (try intro h') <;> (try simp only [Go.Lite.str_eq, decide_eq_true_eq, decide_eq_false_iff_not, Bool.or_eq_true, Bool.and_eq_true, Bool.or_eq_false_iff, Bool.and_eq_false_iff, Bool.not_eq_true', Bool.not_eq_false', Int.not_lt, Int.not_le, Int.toNat_natCast, Int.toNat_zero, cond_false, cond_true, Bool.not_not] at *) <;> (try simp only [rdi, rd2i, cut_one, List.length_singleton, Int.toNat_natCast, Nat.add_zero] at *) <;> (try simp only [rng]) <;> (first | assumption | omega)) | (exact due_app0 (by omega)) | (exact due_app (by omega)) | (intros; simp; done) | (intros; simp; omega)))
          | with_reducible refine Due.mk ?_
          | omega)
        refine ⟨some m, by dsimp only; omega, by dsimp only; omega, TWk.fcanon env [some 3, some 5] (by rfl) ?_⟩
        repeat' (first
          | with_reducible refine Tw.seq ?_
          | with_reducible refine Tw.reg ?_
          | with_reducible refine Tw.block ?_
          | with_reducible refine Tw.scope ?_
          | with_reducible refine Tw.skip ?_
          | with_reducible refine Tw.exit ?_
          | with_reducible refine Tw.ret ?_
          | with_reducible refine seqN ?_
          | with_reducible refine seqR ?_
          | with_reducible refine seqE ?_
          | with_reducible refine blkN ?_
          | with_reducible refine blkR ?_
          | with_reducible refine blkE1 ?_
          | with_reducible refine blkE0 (by kernel_rfl) ?_
          | with_reducible refine scpN ?_
          | with_reducible refine scpR ?_
          | with_reducible refine scpE ?_
          | with_reducible refine TOps.nil ?_
          | with_reducible exact Conj.nil
          | with_reducible refine Conj.cons rfl ?_
          | with_reducible refine Conj.same ?_
          | with_reducible refine Conj.ask ?_ ?_
          | ((with_reducible refine TOps.any ?_); refine TOps.frunP env (by rfl) (by rfl) ?_ ?_)
          | with_reducible refine Tw.regd env ?_
          | ((with_reducible refine TDr.any ?_); refine TDr.frunP env (by rfl) (by rfl) ?_ ?_)
          | with_reducible refine TDr.nil ⟨by kernel_rfl, ?_⟩
          | ((with_reducible refine TOps.any ?_); refine TOps.strip env (by rfl) (by rfl) ?_ ?_)
          | ((with_reducible refine TOps.any ?_); (fail_if_success refine TOps.known (by rfl) ?_); refine TOps.ask (by rfl) (fun h => ?_) (fun h => ?_) <;> (try simp only [Go.Lite.str_eq, decide_eq_true_eq, decide_eq_false_iff_not, Bool.or_eq_true, Bool.and_eq_true, Bool.or_eq_false_iff, Bool.and_eq_false_iff, Bool.not_eq_true', Bool.not_eq_false', Int.not_lt, Int.not_le, Int.toNat_natCast, Int.toNat_zero, cond_false, cond_true, Bool.not_not] at h) <;> (try simp only [rdi, rd2i, cut_one, List.length_singleton, Int.toNat_natCast, Nat.add_zero] at h))
          | ((with_reducible refine TDr.any ?_); (fail_if_success refine TDr.known (by first | rfl | assumption) ?_); refine TDr.ask (by rfl) (fun h hk => ?_) (fun h => ?_) <;> (try simp only [Go.Lite.str_eq, decide_eq_true_eq, decide_eq_false_iff_not, Bool.or_eq_true, Bool.and_eq_true, Bool.or_eq_false_iff, Bool.and_eq_false_iff, Bool.not_eq_true', Bool.not_eq_false', Int.not_lt, Int.not_le, Int.toNat_natCast, Int.toNat_zero, cond_false, cond_true, Bool.not_not] at h) <;> (try simp only [rdi, rd2i, cut_one, List.length_singleton, Int.toNat_natCast, Nat.add_zero] at h))
          | ((with_reducible refine Tw.any ?_); refine Tw.condT (by rfl) ?_)
          | ((with_reducible refine Tw.any ?_); refine Tw.condF (by rfl) ?_)
          | ((with_reducible refine Tw.any ?_); refine Tw.cond (by rfl) (fun h => ?_) (fun h => ?_) <;> (try simp only [Go.Lite.str_eq, decide_eq_true_eq, decide_eq_false_iff_not, Bool.or_eq_true, Bool.and_eq_true, Bool.or_eq_false_iff, Bool.and_eq_false_iff, Bool.not_eq_true', Bool.not_eq_false', Int.not_lt, Int.not_le, Int.toNat_natCast, Int.toNat_zero, cond_false, cond_true, Bool.not_not] at h) <;> (try simp only [rdi, rd2i, cut_one, List.length_singleton, Int.toNat_natCast, Nat.add_zero] at h))
          | ((with_reducible refine tret.any ?_); first | refine tret.ok (by rfl) ?_ | refine tret.okN (by rfl) ?_)
          | ((with_reducible refine Due.mk ?_); (first | with_reducible rfl | omega | assumption | decide | ((try simp only [Go.Lite.str_eq, decide_eq_true_eq, decide_eq_false_iff_not, Bool.or_eq_true, Bool.and_eq_true, Bool.or_eq_false_iff, Bool.and_eq_false_iff, Bool.not_eq_true', Bool.not_eq_false', Int.not_lt, Int.not_le, Int.toNat_natCast, Int.toNat_zero, cond_false, cond_true, Bool.not_not] at *) <;> (try intro h) <;> (try intro h') <;> (try simp only [Go.Lite.str_eq, decide_eq_true_eq, decide_eq_false_iff_not, Bool.or_eq_true, Bool.and_eq_true, Bool.or_eq_false_iff, Bool.and_eq_false_iff, Bool.not_eq_true', Bool.not_eq_false', Int.not_lt, Int.not_le, Int.toNat_natCast, Int.toNat_zero, cond_false, cond_true, Bool.not_not] at *) <;> (try simp only [rdi, rd2i, cut_one, List.length_singleton, Int.toNat_natCast, Nat.add_zero] at *) <;> (try simp only [rng]) <;> (first | assumption | omega)) | (exact due_app0 (by omega)) | (exact due_app (by omega)) | (intros; simp; done) | (intros; simp; omega)))
          | with_reducible refine Due.mk ?_
          | omega)
        · show ns.reverse.take (ns.length - m) = cut a 0 (ns.length - (m + 1)) ++ [ns.getD m dB]
          rw [k1, cut_all l1.symm]
        · show ts.reverse.take (ts.length - m) = cut b 0 (ns.length - (m + 1)) ++ [ts.getD m 0]
          rw [k2, cut_all l2.symm]
  · repeat' (first
      | ((with_reducible refine TOps.any ?_); refine TOps.callV env (by rfl) (by rfl) (by rfl) (spotWorks_c) ?_)
      | with_reducible refine Tw.seq ?_
      | with_reducible refine Tw.reg ?_
      | with_reducible refine Tw.block ?_
      | with_reducible refine Tw.scope ?_
      | with_reducible refine Tw.skip ?_
      | with_reducible refine Tw.exit ?_
      | with_reducible refine Tw.ret ?_
      | with_reducible refine seqN ?_
      | with_reducible refine seqR ?_
      | with_reducible refine seqE ?_
      | with_reducible refine blkN ?_
      | with_reducible refine blkR ?_
      | with_reducible refine blkE1 ?_
      | with_reducible refine blkE0 (by kernel_rfl) ?_
      | with_reducible refine scpN ?_
      | with_reducible refine scpR ?_
      | with_reducible refine scpE ?_
      | with_reducible refine TOps.nil ?_
      | with_reducible exact Conj.nil
      | with_reducible refine Conj.cons rfl ?_
      | with_reducible refine Conj.same ?_
      | with_reducible refine Conj.ask ?_ ?_
      | ((with_reducible refine TOps.any ?_); refine TOps.frunP env (by rfl) (by rfl) ?_ ?_)
      | with_reducible refine Tw.regd env ?_
      | ((with_reducible refine TDr.any ?_); refine TDr.frunP env (by rfl) (by rfl) ?_ ?_)
      | with_reducible refine TDr.nil ⟨by kernel_rfl, ?_⟩
      | ((with_reducible refine TOps.any ?_); refine TOps.strip env (by rfl) (by rfl) ?_ ?_)
      | ((with_reducible refine TOps.any ?_); (fail_if_success refine TOps.known (by rfl) ?_); refine TOps.ask (by rfl) (fun h => ?_) (fun h => ?_) <;> (try simp only [Go.Lite.str_eq, decide_eq_true_eq, decide_eq_false_iff_not, Bool.or_eq_true, Bool.and_eq_true, Bool.or_eq_false_iff, Bool.and_eq_false_iff, Bool.not_eq_true', Bool.not_eq_false', Int.not_lt, Int.not_le, Int.toNat_natCast, Int.toNat_zero, cond_false, cond_true, Bool.not_not] at h) <;> (try simp only [rdi, rd2i, Int.toNat_natCast, Nat.add_zero] at h) <;> (try (exfalso; (try simp only [and_true, true_and, or_false, false_or, not_true_eq_false, not_false_eq_true, decide_true, Bool.not_true, Bool.false_eq_true, reduceCtorEq] at h); first | assumption | omega | contradiction | (rcases h with ⟨_, _⟩ <;> first | contradiction | omega) | (rcases h with h | h <;> first | contradiction | omega))))
      | ((with_reducible refine TDr.any ?_); (fail_if_success refine TDr.known (by first | rfl | assumption) ?_); refine TDr.ask (by rfl) (fun h hk => ?_) (fun h => ?_) <;> (try simp only [Go.Lite.str_eq, decide_eq_true_eq, decide_eq_false_iff_not, Bool.or_eq_true, Bool.and_eq_true, Bool.or_eq_false_iff, Bool.and_eq_false_iff, Bool.not_eq_true', Bool.not_eq_false', Int.not_lt, Int.not_le, Int.toNat_natCast, Int.toNat_zero, cond_false, cond_true, Bool.not_not] at h) <;> (try simp only [rdi, rd2i, Int.toNat_natCast, Nat.add_zero] at h) <;> (try (exfalso; (try simp only [and_true, true_and, or_false, false_or, not_true_eq_false, not_false_eq_true, decide_true, Bool.not_true, Bool.false_eq_true, reduceCtorEq] at h); first | assumption | omega | contradiction | (rcases h with ⟨_, _⟩ <;> first | contradiction | omega) | (rcases h with h | h <;> first | contradiction | omega))))
      | ((with_reducible refine Tw.any ?_); refine Tw.condT (by rfl) ?_)
      | ((with_reducible refine Tw.any ?_); refine Tw.condF (by rfl) ?_)
      | ((with_reducible refine Tw.any ?_); refine Tw.cond (by rfl) (fun h => ?_) (fun h => ?_) <;> (try simp only [Go.Lite.str_eq, decide_eq_true_eq, decide_eq_false_iff_not, Bool.or_eq_true, Bool.and_eq_true, Bool.or_eq_false_iff, Bool.and_eq_false_iff, Bool.not_eq_true', Bool.not_eq_false', Int.not_lt, Int.not_le, Int.toNat_natCast, Int.toNat_zero, cond_false, cond_true, Bool.not_not] at h) <;> (try simp only [rdi, rd2i, Int.toNat_natCast, Nat.add_zero] at h) <;> (try (exfalso; (try simp only [and_true, true_and, or_false, false_or, not_true_eq_false, not_false_eq_true, decide_true, Bool.not_true, Bool.false_eq_true, reduceCtorEq] at h); first | assumption | omega | contradiction | (rcases h with ⟨_, _⟩ <;> first | contradiction | omega) | (rcases h with h | h <;> first | contradiction | omega))))
      | ((with_reducible refine tret.any ?_); first | refine tret.ok (by rfl) ?_ | refine tret.okN (by rfl) ?_)
      | ((with_reducible refine Due.mk ?_); (first | with_reducible rfl | omega | assumption | decide | ((try simp only [Go.Lite.str_eq, decide_eq_true_eq, decide_eq_false_iff_not, Bool.or_eq_true, Bool.and_eq_true, Bool.or_eq_false_iff, Bool.and_eq_false_iff, Bool.not_eq_true', Bool.not_eq_false', Int.not_lt, Int.not_le, Int.toNat_natCast, Int.toNat_zero, cond_false, cond_true, Bool.not_not] at *) <;> (try intro h) <;> (try intro h') <;> (try simp only [Go.Lite.str_eq, decide_eq_true_eq, decide_eq_false_iff_not, Bool.or_eq_true, Bool.and_eq_true, Bool.or_eq_false_iff, Bool.and_eq_false_iff, Bool.not_eq_true', Bool.not_eq_false', Int.not_lt, Int.not_le, Int.toNat_natCast, Int.toNat_zero, cond_false, cond_true, Bool.not_not] at *) <;> (try simp only [rdi, rd2i, Int.toNat_natCast, Nat.add_zero] at *) <;> (try simp only [rng]) <;> (first | assumption | omega)) | (exact due_app0 (by omega)) | (exact due_app (by omega)) | (intros; simp; done) | (intros; simp; omega)))
      | with_reducible refine Due.mk ?_
      | omega)
    refine TOps.call env (by rfl) (by rfl) (by rfl) (expand_x l pr ns ts wl.1 wl.2 wp.1 wn.1 wt.1) ?_
    rintro _ _ ⟨⟨h1, _⟩ | ⟨_, e, he, rfl⟩, rfl⟩
    · exact absurd h1 h
    repeat' (first
      | with_reducible refine Tw.seq ?_
      | with_reducible refine Tw.reg ?_
      | with_reducible refine Tw.block ?_
      | with_reducible refine Tw.scope ?_
      | with_reducible refine Tw.skip ?_
      | with_reducible refine Tw.exit ?_
      | with_reducible refine Tw.ret ?_
      | with_reducible refine seqN ?_
      | with_reducible refine seqR ?_
      | with_reducible refine seqE ?_
      | with_reducible refine blkN ?_
      | with_reducible refine blkR ?_
      | with_reducible refine blkE1 ?_
      | with_reducible refine blkE0 (by kernel_rfl) ?_
      | with_reducible refine scpN ?_
      | with_reducible refine scpR ?_
      | with_reducible refine scpE ?_
      | with_reducible refine TOps.nil ?_
      | with_reducible exact Conj.nil
      | with_reducible refine Conj.cons rfl ?_
      | with_reducible refine Conj.same ?_
      | with_reducible refine Conj.ask ?_ ?_
      | ((with_reducible refine TOps.any ?_); refine TOps.frunP env (by rfl) (by rfl) ?_ ?_)
      | with_reducible refine Tw.regd env ?_
      | ((with_reducible refine TDr.any ?_); refine TDr.frunP env (by rfl) (by rfl) ?_ ?_)
      | with_reducible refine TDr.nil ⟨by kernel_rfl, ?_⟩
      | ((with_reducible refine TOps.any ?_); refine TOps.strip env (by rfl) (by rfl) ?_ ?_)
      | ((with_reducible refine TOps.any ?_); (fail_if_success refine TOps.known (by rfl) ?_); refine TOps.ask (by rfl) (fun h => ?_) (fun h => ?_) <;> (try simp only [Go.Lite.str_eq, decide_eq_true_eq, decide_eq_false_iff_not, Bool.or_eq_true, Bool.and_eq_true, Bool.or_eq_false_iff, Bool.and_eq_false_iff, Bool.not_eq_true', Bool.not_eq_false', Int.not_lt, Int.not_le, Int.toNat_natCast, Int.toNat_zero, cond_false, cond_true, Bool.not_not] at h) <;> (try simp only [rdi, rd2i, Int.toNat_natCast, Nat.add_zero] at h) <;> (try (exfalso; (try simp only [and_true, true_and, or_false, false_or, not_true_eq_false, not_false_eq_true, decide_true, Bool.not_true, Bool.false_eq_true, reduceCtorEq] at h); first | assumption | omega | contradiction | (rcases h with ⟨_, _⟩ <;> first | contradiction | omega) | (rcases h with h | h <;> first | contradiction | omega))))
      | ((with_reducible refine TDr.any ?_); (fail_if_success refine TDr.known (by first | rfl | assumption) ?_); refine TDr.ask (by rfl) (fun h hk => ?_) (fun h => ?_) <;> (try simp only [Go.Lite.str_eq, decide_eq_true_eq, decide_eq_false_iff_not, Bool.or_eq_true, Bool.and_eq_true, Bool.or_eq_false_iff, Bool.and_eq_false_iff, Bool.not_eq_true', Bool.not_eq_false', Int.not_lt, Int.not_le, Int.toNat_natCast, Int.toNat_zero, cond_false, cond_true, Bool.not_not] at h) <;> (try simp only [rdi, rd2i, Int.toNat_natCast, Nat.add_zero] at h) <;> (try (exfalso; (try simp only [and_true, true_and, or_false, false_or, not_true_eq_false, not_false_eq_true, decide_true, Bool.not_true, Bool.false_eq_true, reduceCtorEq] at h); first | assumption | omega | contradiction | (rcases h with ⟨_, _⟩ <;> first | contradiction | omega) | (rcases h with h | h <;> first | contradiction | omega))))
      | ((with_reducible refine Tw.any ?_); refine Tw.condT (by rfl) ?_)
      | ((with_reducible refine Tw.any ?_); refine Tw.condF (by rfl) ?_)
      | ((with_reducible refine Tw.any ?_); refine Tw.cond (by rfl) (fun h => ?_) (fun h => ?_) <;> (try simp only [Go.Lite.str_eq, decide_eq_true_eq, decide_eq_false_iff_not, Bool.or_eq_true, Bool.and_eq_true, Bool.or_eq_false_iff, Bool.and_eq_false_iff, Bool.not_eq_true', Bool.not_eq_false', Int.not_lt, Int.not_le, Int.toNat_natCast, Int.toNat_zero, cond_false, cond_true, Bool.not_not] at h) <;> (try simp only [rdi, rd2i, Int.toNat_natCast, Nat.add_zero] at h) <;> (try (exfalso; (try simp only [and_true, true_and, or_false, false_or, not_true_eq_false, not_false_eq_true, decide_true, Bool.not_true, Bool.false_eq_true, reduceCtorEq] at h); first | assumption | omega | contradiction | (rcases h with ⟨_, _⟩ <;> first | contradiction | omega) | (rcases h with h | h <;> first | contradiction | omega))))
      | ((with_reducible refine tret.any ?_); first | refine tret.ok (by rfl) ?_ | refine tret.okN (by rfl) ?_)
      | ((with_reducible refine Due.mk ?_); (first | with_reducible rfl | omega | assumption | decide | ((try simp only [Go.Lite.str_eq, decide_eq_true_eq, decide_eq_false_iff_not, Bool.or_eq_true, Bool.and_eq_true, Bool.or_eq_false_iff, Bool.and_eq_false_iff, Bool.not_eq_true', Bool.not_eq_false', Int.not_lt, Int.not_le, Int.toNat_natCast, Int.toNat_zero, cond_false, cond_true, Bool.not_not] at *) <;> (try intro h) <;> (try intro h') <;> (try simp only [Go.Lite.str_eq, decide_eq_true_eq, decide_eq_false_iff_not, Bool.or_eq_true, Bool.and_eq_true, Bool.or_eq_false_iff, Bool.and_eq_false_iff, Bool.not_eq_true', Bool.not_eq_false', Int.not_lt, Int.not_le, Int.toNat_natCast, Int.toNat_zero, cond_false, cond_true, Bool.not_not] at *) <;> (try simp only [rdi, rd2i, Int.toNat_natCast, Nat.add_zero] at *) <;> (try simp only [rng]) <;> (first | assumption | omega)) | (exact due_app0 (by omega)) | (exact due_app (by omega)) | (intros; simp; done) | (intros; simp; omega)))
      | with_reducible refine Due.mk ?_
      | omega)
    exact ⟨rfl, rfl, rfl⟩
end Go.Proofs.Ytfgaefpdccdfiaa
