/- The contract of the logarithm to base two. -/
import Derived.Test.YtlcpbpkffdnmnaaDensC
set_option linter.unusedSimpArgs false
namespace Go.Proofs.Ytlcpbpkffdnmnaa
open Go Go.Lite

def logStep (s : Int × Int) : Int × Int :=
  if 2147483648 ≤ s.1 * s.1 / 1073741824 then (s.1 * s.1 / 1073741824 / 2, s.2 * 2 + 1) else (s.1 * s.1 / 1073741824, s.2 * 2)
def logIter (s : Int × Int) : Nat → Int × Int
  | 0 => s
  | n + 1 => logStep (logIter s n)
def logUp (x : Int) : Int := x * 2 ^ (min (63 - lg x).toNat IntKind.u64.bits)
def logStart (x : Int) : Int × Int := (logUp x / 8589934592, lg x)
/-- The logarithm to base two, in 65536ths. -/
def logm (x : Int) : Int := (logIter (logStart x) 16).2

theorem lg_bd (x : Int) (h1 : 1 ≤ x) (h2 : x < 9223372036854775808) : 0 ≤ lg x ∧ lg x ≤ 62 := by
  have hb : Nat.log2 x.toNat < 63 := (Nat.log2_lt (by omega)).2 (by omega)
  unfold lg
  omega

theorem logUp_bd (x : Int) (h1 : 1 ≤ x) (h2 : x < 9223372036854775808) : 9223372036854775808 ≤ logUp x ∧ logUp x < 18446744073709551616 := by
  have hb : Nat.log2 x.toNat < 63 := (Nat.log2_lt (by omega)).2 (by omega)
  unfold logUp lg
  obtain ⟨n, rfl⟩ := Int.eq_ofNat_of_zero_le (show 0 ≤ x by omega)
  rw [Int.toNat_natCast] at *
  obtain ⟨a, b⟩ := (Nat.log2_eq_iff (show n ≠ 0 by omega)).1 rfl
  generalize n.log2 = l at *
  have e : min (63 - (l : Int)).toNat IntKind.u64.bits = 63 - l := by
    show min (63 - (l : Int)).toNat 64 = 63 - l
    omega
  rw [e]
  have c : ((n : Int) * 2 ^ (63 - l)) = ((n * 2 ^ (63 - l) : Nat) : Int) := by simp
  rw [c]
  have d1 : 2 ^ l * 2 ^ (63 - l) ≤ n * 2 ^ (63 - l) := Nat.mul_le_mul_right _ a
  have d2 : n * 2 ^ (63 - l) < 2 ^ (l + 1) * 2 ^ (63 - l) := Nat.mul_lt_mul_of_pos_right b (Nat.pow_pos (by decide))
  rw [← Nat.pow_add] at d1 d2
  rw [show l + (63 - l) = 63 by omega] at d1
  rw [show l + 1 + (63 - l) = 64 by omega] at d2
  omega

theorem sq_bd (y : Int) (h1 : 1073741824 ≤ y) (h2 : y < 2147483648) : 1152921504606846976 ≤ y * y ∧ y * y < 4611686018427387904 := by
  have a := Int.mul_le_mul h1 h1 (by omega) (by omega)
  have b := Int.mul_le_mul (show y ≤ 2147483647 by omega) (show y ≤ 2147483647 by omega) (by omega) (by omega)
  omega

theorem step_bd (s : Int × Int) (h1 : 1073741824 ≤ s.1) (h2 : s.1 < 2147483648) : 1073741824 ≤ (logStep s).1 ∧ (logStep s).1 < 2147483648 := by
  obtain ⟨a, b⟩ := sq_bd s.1 h1 h2
  unfold logStep
  split <;> constructor <;> simp only <;> omega

theorem iter_bd (s : Int × Int) (h1 : 1073741824 ≤ s.1) (h2 : s.1 < 2147483648) (h3 : 0 ≤ s.2) (h4 : s.2 < 64) :
    ∀ n, 1073741824 ≤ (logIter s n).1 ∧ (logIter s n).1 < 2147483648 ∧ 0 ≤ (logIter s n).2 ∧ (logIter s n).2 < 64 * 2 ^ n := by
  intro n
  induction n with
  | zero => exact ⟨h1, h2, h3, by simpa [logIter] using h4⟩
  | succ n ih =>
    obtain ⟨i1, i2, i3, i4⟩ := ih
    obtain ⟨j1, j2⟩ := step_bd _ i1 i2
    refine ⟨j1, j2, ?_, ?_⟩
    · show 0 ≤ (logStep _).2
      unfold logStep
      split <;> simp only <;> omega
    · show (logStep _).2 < _
      rw [Int.pow_succ]
      unfold logStep
      generalize (2 : Int) ^ n = p at *
      split <;> simp only <;> omega

theorem or1 (o : Int) (h1 : 0 ≤ o) (h2 : o < 4611686018427387904) : IntKind.i64.wrap ((BitVec.ofInt IntKind.i64.bits (o * 2) ||| BitVec.ofInt IntKind.i64.bits 1).toNat) = o * 2 + 1 := by
  obtain ⟨n, rfl⟩ := Int.eq_ofNat_of_zero_le h1
  have e : (BitVec.ofInt IntKind.i64.bits ((n : Int) * 2) ||| BitVec.ofInt IntKind.i64.bits 1).toNat = n * 2 + 1 := by
    rw [BitVec.toNat_or, BitVec.toNat_ofInt, BitVec.toNat_ofInt]
    have a : (((n : Int) * 2) % ((2 ^ IntKind.i64.bits : Nat) : Int)).toNat = n * 2 := by
      show (((n : Int) * 2) % 18446744073709551616).toNat = n * 2
      omega
    have b : ((1 : Int) % ((2 ^ IntKind.i64.bits : Nat) : Int)).toNat = 1 := by decide
    rw [a, b]
    have := Nat.shiftLeft_add_eq_or_of_lt (show 1 < 2 ^ 1 by decide) n
    rw [Nat.shiftLeft_eq] at this
    simpa using this.symm
  rw [e]
  exact w64 _ (by omega) (by omega)

theorem shl1 (o : Int) : o * 2 ^ (min (1 : Int).toNat IntKind.i64.bits) = o * 2 := rfl

theorem log_any (x : Int) (h1 : 1 ≤ x) (h2 : x < 9223372036854775808) :
    LCalls Try.prog 20 [.int .i64 x] fun v H => v = .int .i64 (logm x) ∧ H = [] := by
  obtain ⟨b1, b2⟩ := lg_bd x h1 h2
  obtain ⟨u1, u2⟩ := logUp_bd x h1 h2
  have hu : IntKind.u64.wrap (x * 2 ^ (min (63 - lg x).toNat IntKind.u64.bits)) = logUp x := wu64 _ (by unfold logUp at u1; omega) (by unfold logUp at u2; omega)
  have hn : ¬ (63 - lg x < 0) := by omega
  have ib := iter_bd (logStart x) (by unfold logStart; simp only; omega) (by unfold logStart; simp only; omega) b1 (by unfold logStart; simp only; omega)
  refine lcalls density_log_s (by simp [density_log_c]) ?_
  unfold density_log_c
  refine Lw.seq (Lw.ops ?_)
  unfold density_log_r0
  repeat (apply OpsW.nx; · simp (disch := omega) only [next, frameOf, nextQ, valOp, wantS, lput, fset, fget_cons, fget_nil, Nat.reduceEqDiff, evalO, constLV, scalarLV, pureOp, lookBool, asI, lbinT, lbin, lun, loadOp, row, lpart, lcells, putC, sh, shL, shH, snap, hfreeL, hfree, ne_eq, not_true_eq_false, not_false_eq_true, reduceCtorEq, ↓reduceIte, if_true, if_false, Bool.not_true, Bool.not_false, Bool.false_eq_true, Bool.true_eq_false, Option.map_some, Option.map_none, Option.bind_some, List.map_cons, List.map_nil, List.getElem?_cons_zero, List.getElem?_cons_succ, List.length_cons, List.length_nil, List.cons_append, List.nil_append, List.append_nil, forall_const, decide_true, decide_false, eq_self, Int.reduceLT, true_and, and_true, false_and, and_false, true_implies, false_implies, implies_true, Nat.zero_add, Nat.add_zero]; exact rfl)
  try refine OpsW.nil ?_
  try simp only [Option.map_some, Option.map_none, ocase_some, ocase_none, true_and, and_true, eq_self, ↓seqQ, ↓blockQ, ↓retS, resS, lresL, frameOf, sh, shL, shH, List.length_nil, List.length_cons, List.nil_append, List.append_nil, lput, fset, fget_cons, fget_nil, Nat.reduceEqDiff, evalO, ↓reduceIte, Nat.zero_add, Nat.add_zero, reduceCtorEq, ne_eq, not_false_eq_true, not_true_eq_false]
  refine Lw.seq (Lw.ops ?_)
  unfold density_log_r1
  repeat (apply OpsW.nx; · simp (disch := omega) only [wu64, ti3, ti30, ti49, next, frameOf, nextQ, valOp, wantS, lput, fset, fget_cons, fget_nil, Nat.reduceEqDiff, evalO, constLV, scalarLV, pureOp, lookBool, asI, lbinT, lbin, lun, loadOp, row, lpart, lcells, putC, sh, shL, shH, snap, hfreeL, hfree, ne_eq, not_true_eq_false, not_false_eq_true, reduceCtorEq, ↓reduceIte, if_true, if_false, Bool.not_true, Bool.not_false, Bool.false_eq_true, Bool.true_eq_false, Option.map_some, Option.map_none, Option.bind_some, List.map_cons, List.map_nil, List.getElem?_cons_zero, List.getElem?_cons_succ, List.length_cons, List.length_nil, List.cons_append, List.nil_append, List.append_nil, forall_const, decide_true, decide_false, eq_self, Int.reduceLT, true_and, and_true, false_and, and_false, true_implies, false_implies, implies_true, Nat.zero_add, Nat.add_zero]; exact rfl)
  try refine OpsW.nil ?_
  try simp only [Option.map_some, Option.map_none, ocase_some, ocase_none, true_and, and_true, eq_self, ↓seqQ, ↓blockQ, ↓retS, resS, lresL, frameOf, sh, shL, shH, List.length_nil, List.length_cons, List.nil_append, List.append_nil, lput, fset, fget_cons, fget_nil, Nat.reduceEqDiff, evalO, ↓reduceIte, Nat.zero_add, Nat.add_zero, reduceCtorEq, ne_eq, not_false_eq_true, not_true_eq_false]
  apply OpsW.arg; · first | rfl | simp (disch := omega) only [w64, Int.add_sub_cancel, ti3, ti30, ti49, next, frameOf, nextQ, valOp, wantS, lput, fset, fget_cons, fget_nil, Nat.reduceEqDiff, evalO, constLV, scalarLV, pureOp, lookBool, asI, lbinT, lbin, lun, loadOp, row, lpart, lcells, putC, sh, shL, shH, snap, hfreeL, hfree, ne_eq, not_true_eq_false, not_false_eq_true, reduceCtorEq, ↓reduceIte, if_true, if_false, Bool.not_true, Bool.not_false, Bool.false_eq_true, Bool.true_eq_false, Option.map_some, Option.map_none, Option.bind_some, List.map_cons, List.map_nil, List.getElem?_cons_zero, List.getElem?_cons_succ, List.length_cons, List.length_nil, List.cons_append, List.nil_append, List.append_nil, forall_const, decide_true, decide_false, eq_self, Int.reduceLT, true_and, and_true, false_and, and_false, true_implies, false_implies, implies_true, Nat.zero_add, Nat.add_zero]
  · simp (disch := omega) only [w64, Int.add_sub_cancel, ti3, ti30, ti49, next, frameOf, nextQ, valOp, wantS, lput, fset, fget_cons, fget_nil, Nat.reduceEqDiff, evalO, constLV, scalarLV, pureOp, lookBool, asI, lbinT, lbin, lun, loadOp, row, lpart, lcells, putC, sh, shL, shH, snap, hfreeL, hfree, ne_eq, not_true_eq_false, not_false_eq_true, reduceCtorEq, ↓reduceIte, if_true, if_false, Bool.not_true, Bool.not_false, Bool.false_eq_true, Bool.true_eq_false, Option.map_some, Option.map_none, Option.bind_some, List.map_cons, List.map_nil, List.getElem?_cons_zero, List.getElem?_cons_succ, List.length_cons, List.length_nil, List.cons_append, List.nil_append, List.append_nil, forall_const, decide_true, decide_false, eq_self, Int.reduceLT, true_and, and_true, false_and, and_false, true_implies, false_implies, implies_true, Nat.zero_add, Nat.add_zero]; exact rfl
  refine OpsC.of (len64_any x (by omega) (by omega)) rfl ?_
  rintro _ _ ⟨rfl, rfl⟩
  try simp only [Option.map_some, Option.map_none, ocase_some, ocase_none, true_and, and_true, eq_self, ↓seqQ, ↓blockQ, ↓retS, resS, lresL, frameOf, sh, shL, shH, List.length_nil, List.length_cons, List.nil_append, List.append_nil, lput, fset, fget_cons, fget_nil, Nat.reduceEqDiff, evalO, ↓reduceIte, Nat.zero_add, Nat.add_zero, reduceCtorEq, ne_eq, not_false_eq_true, not_true_eq_false]
  repeat (apply OpsW.nx; · simp (disch := omega) only [w64, Int.add_sub_cancel, ti3, ti30, ti49, next, frameOf, nextQ, valOp, wantS, lput, fset, fget_cons, fget_nil, Nat.reduceEqDiff, evalO, constLV, scalarLV, pureOp, lookBool, asI, lbinT, lbin, lun, loadOp, row, lpart, lcells, putC, sh, shL, shH, snap, hfreeL, hfree, ne_eq, not_true_eq_false, not_false_eq_true, reduceCtorEq, ↓reduceIte, if_true, if_false, Bool.not_true, Bool.not_false, Bool.false_eq_true, Bool.true_eq_false, Option.map_some, Option.map_none, Option.bind_some, List.map_cons, List.map_nil, List.getElem?_cons_zero, List.getElem?_cons_succ, List.length_cons, List.length_nil, List.cons_append, List.nil_append, List.append_nil, forall_const, decide_true, decide_false, eq_self, Int.reduceLT, true_and, and_true, false_and, and_false, true_implies, false_implies, implies_true, Nat.zero_add, Nat.add_zero]; exact rfl)
  try refine OpsW.nil ?_
  try simp only [Option.map_some, Option.map_none, ocase_some, ocase_none, true_and, and_true, eq_self, ↓seqQ, ↓blockQ, ↓retS, resS, lresL, frameOf, sh, shL, shH, List.length_nil, List.length_cons, List.nil_append, List.append_nil, lput, fset, fget_cons, fget_nil, Nat.reduceEqDiff, evalO, ↓reduceIte, Nat.zero_add, Nat.add_zero, reduceCtorEq, ne_eq, not_false_eq_true, not_true_eq_false]
  refine Lw.seq (Lw.ops ?_)
  unfold density_log_r2
  repeat (apply OpsW.nx; · simp (disch := omega) only [wu64, hu, w64, hn, sh33, ti3, ti49, next, frameOf, nextQ, valOp, wantS, lput, fset, fget_cons, fget_nil, Nat.reduceEqDiff, evalO, constLV, scalarLV, pureOp, lookBool, asI, lbinT, lbin, lun, loadOp, row, lpart, lcells, putC, sh, shL, shH, snap, hfreeL, hfree, ne_eq, not_true_eq_false, not_false_eq_true, reduceCtorEq, ↓reduceIte, if_true, if_false, Bool.not_true, Bool.not_false, Bool.false_eq_true, Bool.true_eq_false, Option.map_some, Option.map_none, Option.bind_some, List.map_cons, List.map_nil, List.getElem?_cons_zero, List.getElem?_cons_succ, List.length_cons, List.length_nil, List.cons_append, List.nil_append, List.append_nil, forall_const, decide_true, decide_false, eq_self, Int.reduceLT, true_and, and_true, false_and, and_false, true_implies, false_implies, implies_true, Nat.zero_add, Nat.add_zero]; exact rfl)
  try refine OpsW.nil ?_
  try simp only [Option.map_some, Option.map_none, ocase_some, ocase_none, true_and, and_true, eq_self, ↓seqQ, ↓blockQ, ↓retS, resS, lresL, frameOf, sh, shL, shH, List.length_nil, List.length_cons, List.nil_append, List.append_nil, lput, fset, fget_cons, fget_nil, Nat.reduceEqDiff, evalO, ↓reduceIte, Nat.zero_add, Nat.add_zero, reduceCtorEq, ne_eq, not_false_eq_true, not_true_eq_false]
  refine Lw.seq (Lw.ops ?_)
  unfold density_log_r3
  repeat (apply OpsW.nx; · simp (disch := omega) only [next, frameOf, nextQ, valOp, wantS, lput, fset, fget_cons, fget_nil, Nat.reduceEqDiff, evalO, constLV, scalarLV, pureOp, lookBool, asI, lbinT, lbin, lun, loadOp, row, lpart, lcells, putC, sh, shL, shH, snap, hfreeL, hfree, ne_eq, not_true_eq_false, not_false_eq_true, reduceCtorEq, ↓reduceIte, if_true, if_false, Bool.not_true, Bool.not_false, Bool.false_eq_true, Bool.true_eq_false, Option.map_some, Option.map_none, Option.bind_some, List.map_cons, List.map_nil, List.getElem?_cons_zero, List.getElem?_cons_succ, List.length_cons, List.length_nil, List.cons_append, List.nil_append, List.append_nil, forall_const, decide_true, decide_false, eq_self, Int.reduceLT, true_and, and_true, false_and, and_false, true_implies, false_implies, implies_true, Nat.zero_add, Nat.add_zero]; exact rfl)
  try refine OpsW.nil ?_
  try simp only [Option.map_some, Option.map_none, ocase_some, ocase_none, true_and, and_true, eq_self, ↓seqQ, ↓blockQ, ↓retS, resS, lresL, frameOf, sh, shL, shH, List.length_nil, List.length_cons, List.nil_append, List.append_nil, lput, fset, fget_cons, fget_nil, Nat.reduceEqDiff, evalO, ↓reduceIte, Nat.zero_add, Nat.add_zero, reduceCtorEq, ne_eq, not_false_eq_true, not_true_eq_false]
  refine Lw.seq (Lw.seq (Lw.ops ?_))
  unfold density_log_r4
  repeat (apply OpsW.nx; · simp (disch := omega) only [next, frameOf, nextQ, valOp, wantS, lput, fset, fget_cons, fget_nil, Nat.reduceEqDiff, evalO, constLV, scalarLV, pureOp, lookBool, asI, lbinT, lbin, lun, loadOp, row, lpart, lcells, putC, sh, shL, shH, snap, hfreeL, hfree, ne_eq, not_true_eq_false, not_false_eq_true, reduceCtorEq, ↓reduceIte, if_true, if_false, Bool.not_true, Bool.not_false, Bool.false_eq_true, Bool.true_eq_false, Option.map_some, Option.map_none, Option.bind_some, List.map_cons, List.map_nil, List.getElem?_cons_zero, List.getElem?_cons_succ, List.length_cons, List.length_nil, List.cons_append, List.nil_append, List.append_nil, forall_const, decide_true, decide_false, eq_self, Int.reduceLT, true_and, and_true, false_and, and_false, true_implies, false_implies, implies_true, Nat.zero_add, Nat.add_zero]; exact rfl)
  try refine OpsW.nil ?_
  try simp only [Option.map_some, Option.map_none, ocase_some, ocase_none, true_and, and_true, eq_self, ↓seqQ, ↓blockQ, ↓retS, resS, lresL, frameOf, sh, shL, shH, List.length_nil, List.length_cons, List.nil_append, List.append_nil, lput, fset, fget_cons, fget_nil, Nat.reduceEqDiff, evalO, ↓reduceIte, Nat.zero_add, Nat.add_zero, reduceCtorEq, ne_eq, not_false_eq_true, not_true_eq_false]
  refine Lw.block ?_
  refine Lw.loop (α := Nat) (fun i => i ≤ 16) (fun i => 16 - i) (fun i => [(17, .int .i64 i), (4, .int .u64 (logIter (logStart x) i).1), (5, .int .i64 (logIter (logStart x) i).2)]) (fun _ => [])
    ⟨0, by omega, .sub ⟨rfl, rfl, rfl, trivial⟩⟩ ?_
  intro i hi
  have ibi := ib i
  have pw : (2 : Int) ^ i ≤ 2 ^ 16 := by
    have := Nat.pow_le_pow_right (show 0 < 2 by decide) hi
    exact_mod_cast this
  have hit : logIter (logStart x) (i + 1) = logStep (logIter (logStart x) i) := rfl
  have last : i = 16 → (logIter (logStart x) i).2 = logm x := by rintro rfl; rfl
  generalize logIter (logStart x) i = s at *
  obtain ⟨y, o⟩ := s
  obtain ⟨c1, c2, c3, c4⟩ := ibi
  dsimp only at c1 c2 c3 c4 ⊢
  obtain ⟨q1, q2⟩ := sq_bd y c1 c2
  have hsq : IntKind.u64.wrap (y * y) = y * y := wu64 _ (by omega) (by omega)
  refine Lw.seq (Lw.ops ?_)
  unfold density_log_r5
  repeat (apply OpsW.nx; · simp (disch := omega) only [ti3, next, frameOf, nextQ, valOp, wantS, lput, fset, fget_cons, fget_nil, Nat.reduceEqDiff, evalO, constLV, scalarLV, pureOp, lookBool, asI, lbinT, lbin, lun, loadOp, row, lpart, lcells, putC, sh, shL, shH, snap, hfreeL, hfree, ne_eq, not_true_eq_false, not_false_eq_true, reduceCtorEq, ↓reduceIte, if_true, if_false, Bool.not_true, Bool.not_false, Bool.false_eq_true, Bool.true_eq_false, Option.map_some, Option.map_none, Option.bind_some, List.map_cons, List.map_nil, List.getElem?_cons_zero, List.getElem?_cons_succ, List.length_cons, List.length_nil, List.cons_append, List.nil_append, List.append_nil, forall_const, decide_true, decide_false, eq_self, Int.reduceLT, true_and, and_true, false_and, and_false, true_implies, false_implies, implies_true, Nat.zero_add, Nat.add_zero]; exact rfl)
  try refine OpsW.nil ?_
  try simp only [Option.map_some, Option.map_none, ocase_some, ocase_none, true_and, and_true, eq_self, ↓seqQ, ↓blockQ, ↓retS, resS, lresL, frameOf, sh, shL, shH, List.length_nil, List.length_cons, List.nil_append, List.append_nil, lput, fset, fget_cons, fget_nil, Nat.reduceEqDiff, evalO, ↓reduceIte, Nat.zero_add, Nat.add_zero, reduceCtorEq, ne_eq, not_false_eq_true, not_true_eq_false]
  refine Lw.seq (Lw.cond rfl (fun h => Lw.skip ?_) (fun h => Lw.exit ?_))
  · simp only [decide_eq_true_eq] at h
    try simp only [Option.map_some, Option.map_none, ocase_some, ocase_none, true_and, and_true, eq_self, ↓seqQ, ↓blockQ, ↓retS, resS, lresL, frameOf, sh, shL, shH, List.length_nil, List.length_cons, List.nil_append, List.append_nil, lput, fset, fget_cons, fget_nil, Nat.reduceEqDiff, evalO, ↓reduceIte, Nat.zero_add, Nat.add_zero, reduceCtorEq, ne_eq, not_false_eq_true, not_true_eq_false]
    repeat (apply OpsW.nx; · simp (disch := omega) only [ti3, next, frameOf, nextQ, valOp, wantS, lput, fset, fget_cons, fget_nil, Nat.reduceEqDiff, evalO, constLV, scalarLV, pureOp, lookBool, asI, lbinT, lbin, lun, loadOp, row, lpart, lcells, putC, sh, shL, shH, snap, hfreeL, hfree, ne_eq, not_true_eq_false, not_false_eq_true, reduceCtorEq, ↓reduceIte, if_true, if_false, Bool.not_true, Bool.not_false, Bool.false_eq_true, Bool.true_eq_false, Option.map_some, Option.map_none, Option.bind_some, List.map_cons, List.map_nil, List.getElem?_cons_zero, List.getElem?_cons_succ, List.length_cons, List.length_nil, List.cons_append, List.nil_append, List.append_nil, forall_const, decide_true, decide_false, eq_self, Int.reduceLT, true_and, and_true, false_and, and_false, true_implies, false_implies, implies_true, Nat.zero_add, Nat.add_zero]; exact rfl)
    try refine OpsW.nil ?_
    try simp only [Option.map_some, Option.map_none, ocase_some, ocase_none, true_and, and_true, eq_self, ↓seqQ, ↓blockQ, ↓retS, resS, lresL, frameOf, sh, shL, shH, List.length_nil, List.length_cons, List.nil_append, List.append_nil, lput, fset, fget_cons, fget_nil, Nat.reduceEqDiff, evalO, ↓reduceIte, Nat.zero_add, Nat.add_zero, reduceCtorEq, ne_eq, not_false_eq_true, not_true_eq_false]
    refine Lw.seq (Lw.block ?_)
    refine Lw.seq (Lw.ops ?_)
    unfold density_log_r6
    repeat (apply OpsW.nx; · simp (disch := omega) only [hsq, sh30, wu64, ti49, next, frameOf, nextQ, valOp, wantS, lput, fset, fget_cons, fget_nil, Nat.reduceEqDiff, evalO, constLV, scalarLV, pureOp, lookBool, asI, lbinT, lbin, lun, loadOp, row, lpart, lcells, putC, sh, shL, shH, snap, hfreeL, hfree, ne_eq, not_true_eq_false, not_false_eq_true, reduceCtorEq, ↓reduceIte, if_true, if_false, Bool.not_true, Bool.not_false, Bool.false_eq_true, Bool.true_eq_false, Option.map_some, Option.map_none, Option.bind_some, List.map_cons, List.map_nil, List.getElem?_cons_zero, List.getElem?_cons_succ, List.length_cons, List.length_nil, List.cons_append, List.nil_append, List.append_nil, forall_const, decide_true, decide_false, eq_self, Int.reduceLT, true_and, and_true, false_and, and_false, true_implies, false_implies, implies_true, Nat.zero_add, Nat.add_zero]; exact rfl)
    try refine OpsW.nil ?_
    try simp only [Option.map_some, Option.map_none, ocase_some, ocase_none, true_and, and_true, eq_self, ↓seqQ, ↓blockQ, ↓retS, resS, lresL, frameOf, sh, shL, shH, List.length_nil, List.length_cons, List.nil_append, List.append_nil, lput, fset, fget_cons, fget_nil, Nat.reduceEqDiff, evalO, ↓reduceIte, Nat.zero_add, Nat.add_zero, reduceCtorEq, ne_eq, not_false_eq_true, not_true_eq_false]
    refine Lw.seq (Lw.ops ?_)
    unfold density_log_r7
    repeat (apply OpsW.nx; · simp (disch := omega) only [shl1, w64, ti3, next, frameOf, nextQ, valOp, wantS, lput, fset, fget_cons, fget_nil, Nat.reduceEqDiff, evalO, constLV, scalarLV, pureOp, lookBool, asI, lbinT, lbin, lun, loadOp, row, lpart, lcells, putC, sh, shL, shH, snap, hfreeL, hfree, ne_eq, not_true_eq_false, not_false_eq_true, reduceCtorEq, ↓reduceIte, if_true, if_false, Bool.not_true, Bool.not_false, Bool.false_eq_true, Bool.true_eq_false, Option.map_some, Option.map_none, Option.bind_some, List.map_cons, List.map_nil, List.getElem?_cons_zero, List.getElem?_cons_succ, List.length_cons, List.length_nil, List.cons_append, List.nil_append, List.append_nil, forall_const, decide_true, decide_false, eq_self, Int.reduceLT, true_and, and_true, false_and, and_false, true_implies, false_implies, implies_true, Nat.zero_add, Nat.add_zero]; exact rfl)
    try refine OpsW.nil ?_
    try simp only [Option.map_some, Option.map_none, ocase_some, ocase_none, true_and, and_true, eq_self, ↓seqQ, ↓blockQ, ↓retS, resS, lresL, frameOf, sh, shL, shH, List.length_nil, List.length_cons, List.nil_append, List.append_nil, lput, fset, fget_cons, fget_nil, Nat.reduceEqDiff, evalO, ↓reduceIte, Nat.zero_add, Nat.add_zero, reduceCtorEq, ne_eq, not_false_eq_true, not_true_eq_false]
    refine Lw.seq (Lw.ops ?_)
    unfold density_log_r8
    repeat (apply OpsW.nx; · simp (disch := omega) only [ti49, next, frameOf, nextQ, valOp, wantS, lput, fset, fget_cons, fget_nil, Nat.reduceEqDiff, evalO, constLV, scalarLV, pureOp, lookBool, asI, lbinT, lbin, lun, loadOp, row, lpart, lcells, putC, sh, shL, shH, snap, hfreeL, hfree, ne_eq, not_true_eq_false, not_false_eq_true, reduceCtorEq, ↓reduceIte, if_true, if_false, Bool.not_true, Bool.not_false, Bool.false_eq_true, Bool.true_eq_false, Option.map_some, Option.map_none, Option.bind_some, List.map_cons, List.map_nil, List.getElem?_cons_zero, List.getElem?_cons_succ, List.length_cons, List.length_nil, List.cons_append, List.nil_append, List.append_nil, forall_const, decide_true, decide_false, eq_self, Int.reduceLT, true_and, and_true, false_and, and_false, true_implies, false_implies, implies_true, Nat.zero_add, Nat.add_zero]; exact rfl)
    try refine OpsW.nil ?_
    try simp only [Option.map_some, Option.map_none, ocase_some, ocase_none, true_and, and_true, eq_self, ↓seqQ, ↓blockQ, ↓retS, resS, lresL, frameOf, sh, shL, shH, List.length_nil, List.length_cons, List.nil_append, List.append_nil, lput, fset, fget_cons, fget_nil, Nat.reduceEqDiff, evalO, ↓reduceIte, Nat.zero_add, Nat.add_zero, reduceCtorEq, ne_eq, not_false_eq_true, not_true_eq_false]
    refine Lw.cond rfl (fun h' => ?_) (fun h' => ?_)
    · simp only [decide_eq_true_eq] at h'
      refine Lw.seq (Lw.ops ?_)
      unfold density_log_r9
      repeat (apply OpsW.nx; · simp (disch := omega) only [sh1, wu64, ti49, next, frameOf, nextQ, valOp, wantS, lput, fset, fget_cons, fget_nil, Nat.reduceEqDiff, evalO, constLV, scalarLV, pureOp, lookBool, asI, lbinT, lbin, lun, loadOp, row, lpart, lcells, putC, sh, shL, shH, snap, hfreeL, hfree, ne_eq, not_true_eq_false, not_false_eq_true, reduceCtorEq, ↓reduceIte, if_true, if_false, Bool.not_true, Bool.not_false, Bool.false_eq_true, Bool.true_eq_false, Option.map_some, Option.map_none, Option.bind_some, List.map_cons, List.map_nil, List.getElem?_cons_zero, List.getElem?_cons_succ, List.length_cons, List.length_nil, List.cons_append, List.nil_append, List.append_nil, forall_const, decide_true, decide_false, eq_self, Int.reduceLT, true_and, and_true, false_and, and_false, true_implies, false_implies, implies_true, Nat.zero_add, Nat.add_zero]; exact rfl)
      try refine OpsW.nil ?_
      try simp only [Option.map_some, Option.map_none, ocase_some, ocase_none, true_and, and_true, eq_self, ↓seqQ, ↓blockQ, ↓retS, resS, lresL, frameOf, sh, shL, shH, List.length_nil, List.length_cons, List.nil_append, List.append_nil, lput, fset, fget_cons, fget_nil, Nat.reduceEqDiff, evalO, ↓reduceIte, Nat.zero_add, Nat.add_zero, reduceCtorEq, ne_eq, not_false_eq_true, not_true_eq_false]
      refine Lw.ops ?_
      unfold density_log_r10
      repeat (apply OpsW.nx; · simp (disch := omega) only [or1, ti3, next, frameOf, nextQ, valOp, wantS, lput, fset, fget_cons, fget_nil, Nat.reduceEqDiff, evalO, constLV, scalarLV, pureOp, lookBool, asI, lbinT, lbin, lun, loadOp, row, lpart, lcells, putC, sh, shL, shH, snap, hfreeL, hfree, ne_eq, not_true_eq_false, not_false_eq_true, reduceCtorEq, ↓reduceIte, if_true, if_false, Bool.not_true, Bool.not_false, Bool.false_eq_true, Bool.true_eq_false, Option.map_some, Option.map_none, Option.bind_some, List.map_cons, List.map_nil, List.getElem?_cons_zero, List.getElem?_cons_succ, List.length_cons, List.length_nil, List.cons_append, List.nil_append, List.append_nil, forall_const, decide_true, decide_false, eq_self, Int.reduceLT, true_and, and_true, false_and, and_false, true_implies, false_implies, implies_true, Nat.zero_add, Nat.add_zero]; exact rfl)
      try refine OpsW.nil ?_
      try simp only [Option.map_some, Option.map_none, ocase_some, ocase_none, true_and, and_true, eq_self, ↓seqQ, ↓blockQ, ↓retS, resS, lresL, frameOf, sh, shL, shH, List.length_nil, List.length_cons, List.nil_append, List.append_nil, lput, fset, fget_cons, fget_nil, Nat.reduceEqDiff, evalO, ↓reduceIte, Nat.zero_add, Nat.add_zero, reduceCtorEq, ne_eq, not_false_eq_true, not_true_eq_false]
      refine Lw.ops ?_
      unfold density_log_r11
      repeat (apply OpsW.nx; · simp (disch := omega) only [w64, ti3, next, frameOf, nextQ, valOp, wantS, lput, fset, fget_cons, fget_nil, Nat.reduceEqDiff, evalO, constLV, scalarLV, pureOp, lookBool, asI, lbinT, lbin, lun, loadOp, row, lpart, lcells, putC, sh, shL, shH, snap, hfreeL, hfree, ne_eq, not_true_eq_false, not_false_eq_true, reduceCtorEq, ↓reduceIte, if_true, if_false, Bool.not_true, Bool.not_false, Bool.false_eq_true, Bool.true_eq_false, Option.map_some, Option.map_none, Option.bind_some, List.map_cons, List.map_nil, List.getElem?_cons_zero, List.getElem?_cons_succ, List.length_cons, List.length_nil, List.cons_append, List.nil_append, List.append_nil, forall_const, decide_true, decide_false, eq_self, Int.reduceLT, true_and, and_true, false_and, and_false, true_implies, false_implies, implies_true, Nat.zero_add, Nat.add_zero]; exact rfl)
      try refine OpsW.nil ?_
      try simp only [Option.map_some, Option.map_none, ocase_some, ocase_none, true_and, and_true, eq_self, ↓seqQ, ↓blockQ, ↓retS, resS, lresL, frameOf, sh, shL, shH, List.length_nil, List.length_cons, List.nil_append, List.append_nil, lput, fset, fget_cons, fget_nil, Nat.reduceEqDiff, evalO, ↓reduceIte, Nat.zero_add, Nat.add_zero, reduceCtorEq, ne_eq, not_false_eq_true, not_true_eq_false]
      have ls : logStep (y, o) = (y * y / 1073741824 / 2, o * 2 + 1) := if_pos (show 2147483648 ≤ y * y / 1073741824 by omega)
      exact ⟨i + 1, by omega, by omega, .sub ⟨rfl, by rw [hit, ls]; rfl, by rw [hit, ls]; rfl, trivial⟩⟩
    · simp only [decide_eq_false_iff_not] at h'
      refine Lw.skip ?_
      try simp only [Option.map_some, Option.map_none, ocase_some, ocase_none, true_and, and_true, eq_self, ↓seqQ, ↓blockQ, ↓retS, resS, lresL, frameOf, sh, shL, shH, List.length_nil, List.length_cons, List.nil_append, List.append_nil, lput, fset, fget_cons, fget_nil, Nat.reduceEqDiff, evalO, ↓reduceIte, Nat.zero_add, Nat.add_zero, reduceCtorEq, ne_eq, not_false_eq_true, not_true_eq_false]
      repeat (apply OpsW.nx; · simp (disch := omega) only [ti3, next, frameOf, nextQ, valOp, wantS, lput, fset, fget_cons, fget_nil, Nat.reduceEqDiff, evalO, constLV, scalarLV, pureOp, lookBool, asI, lbinT, lbin, lun, loadOp, row, lpart, lcells, putC, sh, shL, shH, snap, hfreeL, hfree, ne_eq, not_true_eq_false, not_false_eq_true, reduceCtorEq, ↓reduceIte, if_true, if_false, Bool.not_true, Bool.not_false, Bool.false_eq_true, Bool.true_eq_false, Option.map_some, Option.map_none, Option.bind_some, List.map_cons, List.map_nil, List.getElem?_cons_zero, List.getElem?_cons_succ, List.length_cons, List.length_nil, List.cons_append, List.nil_append, List.append_nil, forall_const, decide_true, decide_false, eq_self, Int.reduceLT, true_and, and_true, false_and, and_false, true_implies, false_implies, implies_true, Nat.zero_add, Nat.add_zero]; exact rfl)
      try refine OpsW.nil ?_
      try simp only [Option.map_some, Option.map_none, ocase_some, ocase_none, true_and, and_true, eq_self, ↓seqQ, ↓blockQ, ↓retS, resS, lresL, frameOf, sh, shL, shH, List.length_nil, List.length_cons, List.nil_append, List.append_nil, lput, fset, fget_cons, fget_nil, Nat.reduceEqDiff, evalO, ↓reduceIte, Nat.zero_add, Nat.add_zero, reduceCtorEq, ne_eq, not_false_eq_true, not_true_eq_false]
      refine Lw.ops ?_
      unfold density_log_r11
      repeat (apply OpsW.nx; · simp (disch := omega) only [w64, ti3, next, frameOf, nextQ, valOp, wantS, lput, fset, fget_cons, fget_nil, Nat.reduceEqDiff, evalO, constLV, scalarLV, pureOp, lookBool, asI, lbinT, lbin, lun, loadOp, row, lpart, lcells, putC, sh, shL, shH, snap, hfreeL, hfree, ne_eq, not_true_eq_false, not_false_eq_true, reduceCtorEq, ↓reduceIte, if_true, if_false, Bool.not_true, Bool.not_false, Bool.false_eq_true, Bool.true_eq_false, Option.map_some, Option.map_none, Option.bind_some, List.map_cons, List.map_nil, List.getElem?_cons_zero, List.getElem?_cons_succ, List.length_cons, List.length_nil, List.cons_append, List.nil_append, List.append_nil, forall_const, decide_true, decide_false, eq_self, Int.reduceLT, true_and, and_true, false_and, and_false, true_implies, false_implies, implies_true, Nat.zero_add, Nat.add_zero]; exact rfl)
      try refine OpsW.nil ?_
      try simp only [Option.map_some, Option.map_none, ocase_some, ocase_none, true_and, and_true, eq_self, ↓seqQ, ↓blockQ, ↓retS, resS, lresL, frameOf, sh, shL, shH, List.length_nil, List.length_cons, List.nil_append, List.append_nil, lput, fset, fget_cons, fget_nil, Nat.reduceEqDiff, evalO, ↓reduceIte, Nat.zero_add, Nat.add_zero, reduceCtorEq, ne_eq, not_false_eq_true, not_true_eq_false]
      have ls : logStep (y, o) = (y * y / 1073741824, o * 2) := if_neg (show ¬ 2147483648 ≤ y * y / 1073741824 by omega)
      exact ⟨i + 1, by omega, by omega, .sub ⟨rfl, by rw [hit, ls]; rfl, by rw [hit, ls]; rfl, trivial⟩⟩
  · simp only [decide_eq_false_iff_not] at h
    have last := last (by omega)
    try simp only [Option.map_some, Option.map_none, ocase_some, ocase_none, true_and, and_true, eq_self, ↓seqQ, ↓blockQ, ↓retS, resS, lresL, frameOf, sh, shL, shH, List.length_nil, List.length_cons, List.nil_append, List.append_nil, lput, fset, fget_cons, fget_nil, Nat.reduceEqDiff, evalO, ↓reduceIte, Nat.zero_add, Nat.add_zero, reduceCtorEq, ne_eq, not_false_eq_true, not_true_eq_false]
    repeat (apply OpsW.nx; · simp (disch := omega) only [ti3, next, frameOf, nextQ, valOp, wantS, lput, fset, fget_cons, fget_nil, Nat.reduceEqDiff, evalO, constLV, scalarLV, pureOp, lookBool, asI, lbinT, lbin, lun, loadOp, row, lpart, lcells, putC, sh, shL, shH, snap, hfreeL, hfree, ne_eq, not_true_eq_false, not_false_eq_true, reduceCtorEq, ↓reduceIte, if_true, if_false, Bool.not_true, Bool.not_false, Bool.false_eq_true, Bool.true_eq_false, Option.map_some, Option.map_none, Option.bind_some, List.map_cons, List.map_nil, List.getElem?_cons_zero, List.getElem?_cons_succ, List.length_cons, List.length_nil, List.cons_append, List.nil_append, List.append_nil, forall_const, decide_true, decide_false, eq_self, Int.reduceLT, true_and, and_true, false_and, and_false, true_implies, false_implies, implies_true, Nat.zero_add, Nat.add_zero]; exact rfl)
    try refine OpsW.nil ?_
    try simp only [Option.map_some, Option.map_none, ocase_some, ocase_none, true_and, and_true, eq_self, ↓seqQ, ↓blockQ, ↓retS, resS, lresL, frameOf, sh, shL, shH, List.length_nil, List.length_cons, List.nil_append, List.append_nil, lput, fset, fget_cons, fget_nil, Nat.reduceEqDiff, evalO, ↓reduceIte, Nat.zero_add, Nat.add_zero, reduceCtorEq, ne_eq, not_false_eq_true, not_true_eq_false]
    refine Lw.seq (Lw.ops ?_)
    unfold density_log_r12
    repeat (apply OpsW.nx; · simp (disch := omega) only [next, frameOf, nextQ, valOp, wantS, lput, fset, fget_cons, fget_nil, Nat.reduceEqDiff, evalO, constLV, scalarLV, pureOp, lookBool, asI, lbinT, lbin, lun, loadOp, row, lpart, lcells, putC, sh, shL, shH, snap, hfreeL, hfree, ne_eq, not_true_eq_false, not_false_eq_true, reduceCtorEq, ↓reduceIte, if_true, if_false, Bool.not_true, Bool.not_false, Bool.false_eq_true, Bool.true_eq_false, Option.map_some, Option.map_none, Option.bind_some, List.map_cons, List.map_nil, List.getElem?_cons_zero, List.getElem?_cons_succ, List.length_cons, List.length_nil, List.cons_append, List.nil_append, List.append_nil, forall_const, decide_true, decide_false, eq_self, Int.reduceLT, true_and, and_true, false_and, and_false, true_implies, false_implies, implies_true, Nat.zero_add, Nat.add_zero]; exact rfl)
    try refine OpsW.nil ?_
    try simp only [Option.map_some, Option.map_none, ocase_some, ocase_none, true_and, and_true, eq_self, ↓seqQ, ↓blockQ, ↓retS, resS, lresL, frameOf, sh, shL, shH, List.length_nil, List.length_cons, List.nil_append, List.append_nil, lput, fset, fget_cons, fget_nil, Nat.reduceEqDiff, evalO, ↓reduceIte, Nat.zero_add, Nat.add_zero, reduceCtorEq, ne_eq, not_false_eq_true, not_true_eq_false]
    refine Lw.ret ?_
    simp only [Option.map_some, Option.map_none, ocase_some, ocase_none, true_and, and_true, eq_self, ↓seqQ, ↓blockQ, ↓retS, resS, lresL, frameOf, sh, shL, shH, List.length_nil, List.length_cons, List.nil_append, List.append_nil, lput, fset, fget_cons, fget_nil, Nat.reduceEqDiff, evalO, ↓reduceIte, Nat.zero_add, Nat.add_zero, reduceCtorEq, ne_eq, not_false_eq_true, not_true_eq_false]
    exact congrArg _ last
end Go.Proofs.Ytlcpbpkffdnmnaa
