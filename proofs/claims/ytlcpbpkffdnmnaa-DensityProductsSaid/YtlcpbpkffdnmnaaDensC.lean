/- The contracts of Len64 and of the logarithm to base two. -/
import Derived.Test.YtlcpbpkffdnmnaaDensA
set_option linter.unusedSimpArgs false
namespace Go.Proofs.Ytlcpbpkffdnmnaa
open Go Go.Lite

theorem sh1 (a : Int) : a.fdiv (2 ^ (min (1 : Int).toNat IntKind.u64.bits)) = a / 2 := Int.fdiv_eq_ediv_of_nonneg _ (by decide)
theorem sh8 (a : Int) : a.fdiv (2 ^ (min (8 : Int).toNat IntKind.u64.bits)) = a / 256 := Int.fdiv_eq_ediv_of_nonneg _ (by decide)
theorem sh16 (a : Int) : a.fdiv (2 ^ (min (16 : Int).toNat IntKind.u64.bits)) = a / 65536 := Int.fdiv_eq_ediv_of_nonneg _ (by decide)
theorem sh30 (a : Int) : a.fdiv (2 ^ (min (30 : Int).toNat IntKind.u64.bits)) = a / 1073741824 := Int.fdiv_eq_ediv_of_nonneg _ (by decide)
theorem sh32 (a : Int) : a.fdiv (2 ^ (min (32 : Int).toNat IntKind.u64.bits)) = a / 4294967296 := Int.fdiv_eq_ediv_of_nonneg _ (by decide)
theorem sh33 (a : Int) : a.fdiv (2 ^ (min (33 : Int).toNat IntKind.u64.bits)) = a / 8589934592 := Int.fdiv_eq_ediv_of_nonneg _ (by decide)

/-- The logarithm, rounded down. -/
def lg (x : Int) : Int := (Nat.log2 x.toNat : Int)

theorem lg_div (x : Int) (k : Nat) (h : 2 ^ k ≤ x) : lg x = k + lg (x / 2 ^ k) := by
  unfold lg
  have hp : (0 : Int) < 2 ^ k := Int.pow_pos (by decide)
  obtain ⟨n, rfl⟩ := Int.eq_ofNat_of_zero_le (show 0 ≤ x by omega)
  have hq : ((n : Int) / 2 ^ k).toNat = n / 2 ^ k := by
    have : ((n : Int) / 2 ^ k) = ((n / 2 ^ k : Nat) : Int) := by simp
    rw [this]; rfl
  rw [hq, Int.toNat_natCast]
  have hn : 2 ^ k ≤ n := by
    have := h
    rw [show ((2 : Int) ^ k) = ((2 ^ k : Nat) : Int) by simp] at this
    omega
  have hp' : 0 < 2 ^ k := Nat.pow_pos (by decide)
  have hm : n / 2 ^ k ≠ 0 := by
    have := Nat.div_pos hn hp'
    omega
  obtain ⟨h1, h2⟩ := (Nat.log2_eq_iff hm).1 rfl
  generalize hl : (n / 2 ^ k).log2 = l at *
  have e : n.log2 = l + k := by
    refine (Nat.log2_eq_iff (by omega)).2 ⟨?_, ?_⟩
    · rw [Nat.pow_add]
      exact (Nat.le_div_iff_mul_le hp').1 h1
    · rw [show l + k + 1 = (l + 1) + k by omega, Nat.pow_add]
      exact (Nat.div_lt_iff_lt_mul hp').1 h2
  rw [e]
  omega

theorem tab8 : ∀ n, n < 256 → 1 ≤ n → str_1[n]? = some (UInt8.ofNat (Nat.log2 n + 1)) := by decide +kernel

theorem len64_any (x : Int) (h1 : 1 ≤ x) (h2 : x < 18446744073709551616) :
    LCalls Try.prog 30 [.int .u64 x] fun v H => v = .int .i64 (lg x + 1) ∧ H = [] := by
  refine lcalls math_bits_Len64_s (by simp [math_bits_Len64_c]) ?_
  unfold math_bits_Len64_c
  refine Lw.seq (Lw.ops ?_)
  unfold math_bits_Len64_r0
  repeat (apply OpsW.nx; · simp (disch := omega) only [next, frameOf, nextQ, valOp, wantS, lput, fset, fget_cons, fget_nil, Nat.reduceEqDiff, evalO, constLV, scalarLV, pureOp, lookBool, asI, lbinT, lbin, lun, loadOp, row, lpart, lcells, putC, sh, shL, shH, snap, hfreeL, hfree, ne_eq, not_true_eq_false, not_false_eq_true, reduceCtorEq, ↓reduceIte, if_true, if_false, Bool.not_true, Bool.not_false, Bool.false_eq_true, Bool.true_eq_false, Option.map_some, Option.map_none, Option.bind_some, List.map_cons, List.map_nil, List.getElem?_cons_zero, List.getElem?_cons_succ, List.length_cons, List.length_nil, List.cons_append, List.nil_append, List.append_nil, forall_const, decide_true, decide_false, eq_self, Int.reduceLT, true_and, and_true, false_and, and_false, true_implies, false_implies, implies_true, Nat.zero_add, Nat.add_zero]; exact rfl)
  try refine OpsW.nil ?_
  try simp only [Option.map_some, Option.map_none, ocase_some, ocase_none, true_and, and_true, eq_self, ↓seqQ, ↓blockQ, ↓retS, resS, lresL, frameOf, sh, shL, shH, List.length_nil, List.length_cons, List.nil_append, List.append_nil, lput, fset, fget_cons, fget_nil, Nat.reduceEqDiff, evalO, ↓reduceIte, Nat.zero_add, Nat.add_zero, reduceCtorEq, ne_eq, not_false_eq_true, not_true_eq_false]
  refine Lw.cut (α := Int × Int) (fun i => 1 ≤ i.1 ∧ i.1 < 4294967296 ∧ 0 ≤ i.2 ∧ i.2 ≤ 32 ∧ lg x = i.2 + lg i.1) (fun i => [(0, .int .u64 i.1), (2, .int .i64 i.2)]) (fun _ => []) ?_ ?_
  · refine Lw.seq (Lw.ops ?_)
    unfold math_bits_Len64_r1
    repeat (apply OpsW.nx; · simp (disch := omega) only [ti49, next, frameOf, nextQ, valOp, wantS, lput, fset, fget_cons, fget_nil, Nat.reduceEqDiff, evalO, constLV, scalarLV, pureOp, lookBool, asI, lbinT, lbin, lun, loadOp, row, lpart, lcells, putC, sh, shL, shH, snap, hfreeL, hfree, ne_eq, not_true_eq_false, not_false_eq_true, reduceCtorEq, ↓reduceIte, if_true, if_false, Bool.not_true, Bool.not_false, Bool.false_eq_true, Bool.true_eq_false, Option.map_some, Option.map_none, Option.bind_some, List.map_cons, List.map_nil, List.getElem?_cons_zero, List.getElem?_cons_succ, List.length_cons, List.length_nil, List.cons_append, List.nil_append, List.append_nil, forall_const, decide_true, decide_false, eq_self, Int.reduceLT, true_and, and_true, false_and, and_false, true_implies, false_implies, implies_true, Nat.zero_add, Nat.add_zero]; exact rfl)
    try refine OpsW.nil ?_
    try simp only [Option.map_some, Option.map_none, ocase_some, ocase_none, true_and, and_true, eq_self, ↓seqQ, ↓blockQ, ↓retS, resS, lresL, frameOf, sh, shL, shH, List.length_nil, List.length_cons, List.nil_append, List.append_nil, lput, fset, fget_cons, fget_nil, Nat.reduceEqDiff, evalO, ↓reduceIte, Nat.zero_add, Nat.add_zero, reduceCtorEq, ne_eq, not_false_eq_true, not_true_eq_false]
    refine Lw.cond rfl (fun h => ?_) (fun h => ?_)
    · simp only [decide_eq_true_eq] at h
      refine Lw.seq (Lw.ops ?_)
      unfold math_bits_Len64_r2
      repeat (apply OpsW.nx; · simp (disch := omega) only [sh32, wu64, ti49, next, frameOf, nextQ, valOp, wantS, lput, fset, fget_cons, fget_nil, Nat.reduceEqDiff, evalO, constLV, scalarLV, pureOp, lookBool, asI, lbinT, lbin, lun, loadOp, row, lpart, lcells, putC, sh, shL, shH, snap, hfreeL, hfree, ne_eq, not_true_eq_false, not_false_eq_true, reduceCtorEq, ↓reduceIte, if_true, if_false, Bool.not_true, Bool.not_false, Bool.false_eq_true, Bool.true_eq_false, Option.map_some, Option.map_none, Option.bind_some, List.map_cons, List.map_nil, List.getElem?_cons_zero, List.getElem?_cons_succ, List.length_cons, List.length_nil, List.cons_append, List.nil_append, List.append_nil, forall_const, decide_true, decide_false, eq_self, Int.reduceLT, true_and, and_true, false_and, and_false, true_implies, false_implies, implies_true, Nat.zero_add, Nat.add_zero]; exact rfl)
      try refine OpsW.nil ?_
      try simp only [Option.map_some, Option.map_none, ocase_some, ocase_none, true_and, and_true, eq_self, ↓seqQ, ↓blockQ, ↓retS, resS, lresL, frameOf, sh, shL, shH, List.length_nil, List.length_cons, List.nil_append, List.append_nil, lput, fset, fget_cons, fget_nil, Nat.reduceEqDiff, evalO, ↓reduceIte, Nat.zero_add, Nat.add_zero, reduceCtorEq, ne_eq, not_false_eq_true, not_true_eq_false]
      refine Lw.ops ?_
      unfold math_bits_Len64_r3
      repeat (apply OpsW.nx; · simp (disch := omega) only [next, frameOf, nextQ, valOp, wantS, lput, fset, fget_cons, fget_nil, Nat.reduceEqDiff, evalO, constLV, scalarLV, pureOp, lookBool, asI, lbinT, lbin, lun, loadOp, row, lpart, lcells, putC, sh, shL, shH, snap, hfreeL, hfree, ne_eq, not_true_eq_false, not_false_eq_true, reduceCtorEq, ↓reduceIte, if_true, if_false, Bool.not_true, Bool.not_false, Bool.false_eq_true, Bool.true_eq_false, Option.map_some, Option.map_none, Option.bind_some, List.map_cons, List.map_nil, List.getElem?_cons_zero, List.getElem?_cons_succ, List.length_cons, List.length_nil, List.cons_append, List.nil_append, List.append_nil, forall_const, decide_true, decide_false, eq_self, Int.reduceLT, true_and, and_true, false_and, and_false, true_implies, false_implies, implies_true, Nat.zero_add, Nat.add_zero]; exact rfl)
      try refine OpsW.nil ?_
      try simp only [Option.map_some, Option.map_none, ocase_some, ocase_none, true_and, and_true, eq_self, ↓seqQ, ↓blockQ, ↓retS, resS, lresL, frameOf, sh, shL, shH, List.length_nil, List.length_cons, List.nil_append, List.append_nil, lput, fset, fget_cons, fget_nil, Nat.reduceEqDiff, evalO, ↓reduceIte, Nat.zero_add, Nat.add_zero, reduceCtorEq, ne_eq, not_false_eq_true, not_true_eq_false]
      exact ⟨(x / 4294967296, 32), ⟨by omega, by omega, by omega, by omega, lg_div x 32 (by omega)⟩, .sub ⟨rfl, rfl, trivial⟩⟩
    · simp only [decide_eq_false_iff_not] at h
      refine Lw.skip ?_
      try simp only [Option.map_some, Option.map_none, ocase_some, ocase_none, true_and, and_true, eq_self, ↓seqQ, ↓blockQ, ↓retS, resS, lresL, frameOf, sh, shL, shH, List.length_nil, List.length_cons, List.nil_append, List.append_nil, lput, fset, fget_cons, fget_nil, Nat.reduceEqDiff, evalO, ↓reduceIte, Nat.zero_add, Nat.add_zero, reduceCtorEq, ne_eq, not_false_eq_true, not_true_eq_false]
      repeat (apply OpsW.nx; · simp (disch := omega) only [next, frameOf, nextQ, valOp, wantS, lput, fset, fget_cons, fget_nil, Nat.reduceEqDiff, evalO, constLV, scalarLV, pureOp, lookBool, asI, lbinT, lbin, lun, loadOp, row, lpart, lcells, putC, sh, shL, shH, snap, hfreeL, hfree, ne_eq, not_true_eq_false, not_false_eq_true, reduceCtorEq, ↓reduceIte, if_true, if_false, Bool.not_true, Bool.not_false, Bool.false_eq_true, Bool.true_eq_false, Option.map_some, Option.map_none, Option.bind_some, List.map_cons, List.map_nil, List.getElem?_cons_zero, List.getElem?_cons_succ, List.length_cons, List.length_nil, List.cons_append, List.nil_append, List.append_nil, forall_const, decide_true, decide_false, eq_self, Int.reduceLT, true_and, and_true, false_and, and_false, true_implies, false_implies, implies_true, Nat.zero_add, Nat.add_zero]; exact rfl)
      try refine OpsW.nil ?_
      try simp only [Option.map_some, Option.map_none, ocase_some, ocase_none, true_and, and_true, eq_self, ↓seqQ, ↓blockQ, ↓retS, resS, lresL, frameOf, sh, shL, shH, List.length_nil, List.length_cons, List.nil_append, List.append_nil, lput, fset, fget_cons, fget_nil, Nat.reduceEqDiff, evalO, ↓reduceIte, Nat.zero_add, Nat.add_zero, reduceCtorEq, ne_eq, not_false_eq_true, not_true_eq_false]
      exact ⟨(x, 0), ⟨by omega, by omega, by omega, by omega, (Int.zero_add _).symm⟩, .sub ⟨rfl, rfl, trivial⟩⟩
  rintro ⟨y, n⟩ ⟨a1, a2, a3, a4, a5⟩
  dsimp only at a1 a2 a3 a4 a5 ⊢
  refine Lw.cut (α := Int × Int) (fun i => 1 ≤ i.1 ∧ i.1 < 65536 ∧ 0 ≤ i.2 ∧ i.2 ≤ 48 ∧ lg x = i.2 + lg i.1) (fun i => [(0, .int .u64 i.1), (2, .int .i64 i.2)]) (fun _ => []) ?_ ?_
  · refine Lw.seq (Lw.ops ?_)
    unfold math_bits_Len64_r4
    repeat (apply OpsW.nx; · simp (disch := omega) only [ti49, next, frameOf, nextQ, valOp, wantS, lput, fset, fget_cons, fget_nil, Nat.reduceEqDiff, evalO, constLV, scalarLV, pureOp, lookBool, asI, lbinT, lbin, lun, loadOp, row, lpart, lcells, putC, sh, shL, shH, snap, hfreeL, hfree, ne_eq, not_true_eq_false, not_false_eq_true, reduceCtorEq, ↓reduceIte, if_true, if_false, Bool.not_true, Bool.not_false, Bool.false_eq_true, Bool.true_eq_false, Option.map_some, Option.map_none, Option.bind_some, List.map_cons, List.map_nil, List.getElem?_cons_zero, List.getElem?_cons_succ, List.length_cons, List.length_nil, List.cons_append, List.nil_append, List.append_nil, forall_const, decide_true, decide_false, eq_self, Int.reduceLT, true_and, and_true, false_and, and_false, true_implies, false_implies, implies_true, Nat.zero_add, Nat.add_zero]; exact rfl)
    try refine OpsW.nil ?_
    try simp only [Option.map_some, Option.map_none, ocase_some, ocase_none, true_and, and_true, eq_self, ↓seqQ, ↓blockQ, ↓retS, resS, lresL, frameOf, sh, shL, shH, List.length_nil, List.length_cons, List.nil_append, List.append_nil, lput, fset, fget_cons, fget_nil, Nat.reduceEqDiff, evalO, ↓reduceIte, Nat.zero_add, Nat.add_zero, reduceCtorEq, ne_eq, not_false_eq_true, not_true_eq_false]
    refine Lw.cond rfl (fun h => ?_) (fun h => ?_)
    · simp only [decide_eq_true_eq] at h
      refine Lw.seq (Lw.ops ?_)
      unfold math_bits_Len64_r5
      repeat (apply OpsW.nx; · simp (disch := omega) only [sh16, wu64, ti49, next, frameOf, nextQ, valOp, wantS, lput, fset, fget_cons, fget_nil, Nat.reduceEqDiff, evalO, constLV, scalarLV, pureOp, lookBool, asI, lbinT, lbin, lun, loadOp, row, lpart, lcells, putC, sh, shL, shH, snap, hfreeL, hfree, ne_eq, not_true_eq_false, not_false_eq_true, reduceCtorEq, ↓reduceIte, if_true, if_false, Bool.not_true, Bool.not_false, Bool.false_eq_true, Bool.true_eq_false, Option.map_some, Option.map_none, Option.bind_some, List.map_cons, List.map_nil, List.getElem?_cons_zero, List.getElem?_cons_succ, List.length_cons, List.length_nil, List.cons_append, List.nil_append, List.append_nil, forall_const, decide_true, decide_false, eq_self, Int.reduceLT, true_and, and_true, false_and, and_false, true_implies, false_implies, implies_true, Nat.zero_add, Nat.add_zero]; exact rfl)
      try refine OpsW.nil ?_
      try simp only [Option.map_some, Option.map_none, ocase_some, ocase_none, true_and, and_true, eq_self, ↓seqQ, ↓blockQ, ↓retS, resS, lresL, frameOf, sh, shL, shH, List.length_nil, List.length_cons, List.nil_append, List.append_nil, lput, fset, fget_cons, fget_nil, Nat.reduceEqDiff, evalO, ↓reduceIte, Nat.zero_add, Nat.add_zero, reduceCtorEq, ne_eq, not_false_eq_true, not_true_eq_false]
      refine Lw.ops ?_
      unfold math_bits_Len64_r6
      repeat (apply OpsW.nx; · simp (disch := omega) only [w64, ti3, next, frameOf, nextQ, valOp, wantS, lput, fset, fget_cons, fget_nil, Nat.reduceEqDiff, evalO, constLV, scalarLV, pureOp, lookBool, asI, lbinT, lbin, lun, loadOp, row, lpart, lcells, putC, sh, shL, shH, snap, hfreeL, hfree, ne_eq, not_true_eq_false, not_false_eq_true, reduceCtorEq, ↓reduceIte, if_true, if_false, Bool.not_true, Bool.not_false, Bool.false_eq_true, Bool.true_eq_false, Option.map_some, Option.map_none, Option.bind_some, List.map_cons, List.map_nil, List.getElem?_cons_zero, List.getElem?_cons_succ, List.length_cons, List.length_nil, List.cons_append, List.nil_append, List.append_nil, forall_const, decide_true, decide_false, eq_self, Int.reduceLT, true_and, and_true, false_and, and_false, true_implies, false_implies, implies_true, Nat.zero_add, Nat.add_zero]; exact rfl)
      try refine OpsW.nil ?_
      try simp only [Option.map_some, Option.map_none, ocase_some, ocase_none, true_and, and_true, eq_self, ↓seqQ, ↓blockQ, ↓retS, resS, lresL, frameOf, sh, shL, shH, List.length_nil, List.length_cons, List.nil_append, List.append_nil, lput, fset, fget_cons, fget_nil, Nat.reduceEqDiff, evalO, ↓reduceIte, Nat.zero_add, Nat.add_zero, reduceCtorEq, ne_eq, not_false_eq_true, not_true_eq_false]
      have := show lg y = 16 + lg (y / 65536) from lg_div y 16 (by omega)
      exact ⟨(y / 65536, n + 16), ⟨by omega, by omega, by omega, by omega, by rw [a5, this]; simp only; omega⟩, .sub ⟨rfl, rfl, trivial⟩⟩
    · simp only [decide_eq_false_iff_not] at h
      refine Lw.skip ?_
      try simp only [Option.map_some, Option.map_none, ocase_some, ocase_none, true_and, and_true, eq_self, ↓seqQ, ↓blockQ, ↓retS, resS, lresL, frameOf, sh, shL, shH, List.length_nil, List.length_cons, List.nil_append, List.append_nil, lput, fset, fget_cons, fget_nil, Nat.reduceEqDiff, evalO, ↓reduceIte, Nat.zero_add, Nat.add_zero, reduceCtorEq, ne_eq, not_false_eq_true, not_true_eq_false]
      repeat (apply OpsW.nx; · simp (disch := omega) only [ti3, next, frameOf, nextQ, valOp, wantS, lput, fset, fget_cons, fget_nil, Nat.reduceEqDiff, evalO, constLV, scalarLV, pureOp, lookBool, asI, lbinT, lbin, lun, loadOp, row, lpart, lcells, putC, sh, shL, shH, snap, hfreeL, hfree, ne_eq, not_true_eq_false, not_false_eq_true, reduceCtorEq, ↓reduceIte, if_true, if_false, Bool.not_true, Bool.not_false, Bool.false_eq_true, Bool.true_eq_false, Option.map_some, Option.map_none, Option.bind_some, List.map_cons, List.map_nil, List.getElem?_cons_zero, List.getElem?_cons_succ, List.length_cons, List.length_nil, List.cons_append, List.nil_append, List.append_nil, forall_const, decide_true, decide_false, eq_self, Int.reduceLT, true_and, and_true, false_and, and_false, true_implies, false_implies, implies_true, Nat.zero_add, Nat.add_zero]; exact rfl)
      try refine OpsW.nil ?_
      try simp only [Option.map_some, Option.map_none, ocase_some, ocase_none, true_and, and_true, eq_self, ↓seqQ, ↓blockQ, ↓retS, resS, lresL, frameOf, sh, shL, shH, List.length_nil, List.length_cons, List.nil_append, List.append_nil, lput, fset, fget_cons, fget_nil, Nat.reduceEqDiff, evalO, ↓reduceIte, Nat.zero_add, Nat.add_zero, reduceCtorEq, ne_eq, not_false_eq_true, not_true_eq_false]
      exact ⟨(y, n), ⟨by omega, by omega, by omega, by omega, by omega⟩, .sub ⟨rfl, rfl, trivial⟩⟩
  clear a1 a2 a3 a4 a5 y n
  rintro ⟨y, n⟩ ⟨a1, a2, a3, a4, a5⟩
  dsimp only at a1 a2 a3 a4 a5 ⊢
  refine Lw.cut (α := Int × Int) (fun i => 1 ≤ i.1 ∧ i.1 < 256 ∧ 0 ≤ i.2 ∧ i.2 ≤ 56 ∧ lg x = i.2 + lg i.1) (fun i => [(0, .int .u64 i.1), (2, .int .i64 i.2)]) (fun _ => []) ?_ ?_
  · refine Lw.seq (Lw.ops ?_)
    unfold math_bits_Len64_r7
    repeat (apply OpsW.nx; · simp (disch := omega) only [ti49, next, frameOf, nextQ, valOp, wantS, lput, fset, fget_cons, fget_nil, Nat.reduceEqDiff, evalO, constLV, scalarLV, pureOp, lookBool, asI, lbinT, lbin, lun, loadOp, row, lpart, lcells, putC, sh, shL, shH, snap, hfreeL, hfree, ne_eq, not_true_eq_false, not_false_eq_true, reduceCtorEq, ↓reduceIte, if_true, if_false, Bool.not_true, Bool.not_false, Bool.false_eq_true, Bool.true_eq_false, Option.map_some, Option.map_none, Option.bind_some, List.map_cons, List.map_nil, List.getElem?_cons_zero, List.getElem?_cons_succ, List.length_cons, List.length_nil, List.cons_append, List.nil_append, List.append_nil, forall_const, decide_true, decide_false, eq_self, Int.reduceLT, true_and, and_true, false_and, and_false, true_implies, false_implies, implies_true, Nat.zero_add, Nat.add_zero]; exact rfl)
    try refine OpsW.nil ?_
    try simp only [Option.map_some, Option.map_none, ocase_some, ocase_none, true_and, and_true, eq_self, ↓seqQ, ↓blockQ, ↓retS, resS, lresL, frameOf, sh, shL, shH, List.length_nil, List.length_cons, List.nil_append, List.append_nil, lput, fset, fget_cons, fget_nil, Nat.reduceEqDiff, evalO, ↓reduceIte, Nat.zero_add, Nat.add_zero, reduceCtorEq, ne_eq, not_false_eq_true, not_true_eq_false]
    refine Lw.cond rfl (fun h => ?_) (fun h => ?_)
    · simp only [decide_eq_true_eq] at h
      refine Lw.seq (Lw.ops ?_)
      unfold math_bits_Len64_r8
      repeat (apply OpsW.nx; · simp (disch := omega) only [sh8, wu64, ti49, next, frameOf, nextQ, valOp, wantS, lput, fset, fget_cons, fget_nil, Nat.reduceEqDiff, evalO, constLV, scalarLV, pureOp, lookBool, asI, lbinT, lbin, lun, loadOp, row, lpart, lcells, putC, sh, shL, shH, snap, hfreeL, hfree, ne_eq, not_true_eq_false, not_false_eq_true, reduceCtorEq, ↓reduceIte, if_true, if_false, Bool.not_true, Bool.not_false, Bool.false_eq_true, Bool.true_eq_false, Option.map_some, Option.map_none, Option.bind_some, List.map_cons, List.map_nil, List.getElem?_cons_zero, List.getElem?_cons_succ, List.length_cons, List.length_nil, List.cons_append, List.nil_append, List.append_nil, forall_const, decide_true, decide_false, eq_self, Int.reduceLT, true_and, and_true, false_and, and_false, true_implies, false_implies, implies_true, Nat.zero_add, Nat.add_zero]; exact rfl)
      try refine OpsW.nil ?_
      try simp only [Option.map_some, Option.map_none, ocase_some, ocase_none, true_and, and_true, eq_self, ↓seqQ, ↓blockQ, ↓retS, resS, lresL, frameOf, sh, shL, shH, List.length_nil, List.length_cons, List.nil_append, List.append_nil, lput, fset, fget_cons, fget_nil, Nat.reduceEqDiff, evalO, ↓reduceIte, Nat.zero_add, Nat.add_zero, reduceCtorEq, ne_eq, not_false_eq_true, not_true_eq_false]
      refine Lw.ops ?_
      unfold math_bits_Len64_r9
      repeat (apply OpsW.nx; · simp (disch := omega) only [w64, ti3, next, frameOf, nextQ, valOp, wantS, lput, fset, fget_cons, fget_nil, Nat.reduceEqDiff, evalO, constLV, scalarLV, pureOp, lookBool, asI, lbinT, lbin, lun, loadOp, row, lpart, lcells, putC, sh, shL, shH, snap, hfreeL, hfree, ne_eq, not_true_eq_false, not_false_eq_true, reduceCtorEq, ↓reduceIte, if_true, if_false, Bool.not_true, Bool.not_false, Bool.false_eq_true, Bool.true_eq_false, Option.map_some, Option.map_none, Option.bind_some, List.map_cons, List.map_nil, List.getElem?_cons_zero, List.getElem?_cons_succ, List.length_cons, List.length_nil, List.cons_append, List.nil_append, List.append_nil, forall_const, decide_true, decide_false, eq_self, Int.reduceLT, true_and, and_true, false_and, and_false, true_implies, false_implies, implies_true, Nat.zero_add, Nat.add_zero]; exact rfl)
      try refine OpsW.nil ?_
      try simp only [Option.map_some, Option.map_none, ocase_some, ocase_none, true_and, and_true, eq_self, ↓seqQ, ↓blockQ, ↓retS, resS, lresL, frameOf, sh, shL, shH, List.length_nil, List.length_cons, List.nil_append, List.append_nil, lput, fset, fget_cons, fget_nil, Nat.reduceEqDiff, evalO, ↓reduceIte, Nat.zero_add, Nat.add_zero, reduceCtorEq, ne_eq, not_false_eq_true, not_true_eq_false]
      have := show lg y = 8 + lg (y / 256) from lg_div y 8 (by omega)
      exact ⟨(y / 256, n + 8), ⟨by omega, by omega, by omega, by omega, by rw [a5, this]; simp only; omega⟩, .sub ⟨rfl, rfl, trivial⟩⟩
    · simp only [decide_eq_false_iff_not] at h
      refine Lw.skip ?_
      try simp only [Option.map_some, Option.map_none, ocase_some, ocase_none, true_and, and_true, eq_self, ↓seqQ, ↓blockQ, ↓retS, resS, lresL, frameOf, sh, shL, shH, List.length_nil, List.length_cons, List.nil_append, List.append_nil, lput, fset, fget_cons, fget_nil, Nat.reduceEqDiff, evalO, ↓reduceIte, Nat.zero_add, Nat.add_zero, reduceCtorEq, ne_eq, not_false_eq_true, not_true_eq_false]
      repeat (apply OpsW.nx; · simp (disch := omega) only [ti3, next, frameOf, nextQ, valOp, wantS, lput, fset, fget_cons, fget_nil, Nat.reduceEqDiff, evalO, constLV, scalarLV, pureOp, lookBool, asI, lbinT, lbin, lun, loadOp, row, lpart, lcells, putC, sh, shL, shH, snap, hfreeL, hfree, ne_eq, not_true_eq_false, not_false_eq_true, reduceCtorEq, ↓reduceIte, if_true, if_false, Bool.not_true, Bool.not_false, Bool.false_eq_true, Bool.true_eq_false, Option.map_some, Option.map_none, Option.bind_some, List.map_cons, List.map_nil, List.getElem?_cons_zero, List.getElem?_cons_succ, List.length_cons, List.length_nil, List.cons_append, List.nil_append, List.append_nil, forall_const, decide_true, decide_false, eq_self, Int.reduceLT, true_and, and_true, false_and, and_false, true_implies, false_implies, implies_true, Nat.zero_add, Nat.add_zero]; exact rfl)
      try refine OpsW.nil ?_
      try simp only [Option.map_some, Option.map_none, ocase_some, ocase_none, true_and, and_true, eq_self, ↓seqQ, ↓blockQ, ↓retS, resS, lresL, frameOf, sh, shL, shH, List.length_nil, List.length_cons, List.nil_append, List.append_nil, lput, fset, fget_cons, fget_nil, Nat.reduceEqDiff, evalO, ↓reduceIte, Nat.zero_add, Nat.add_zero, reduceCtorEq, ne_eq, not_false_eq_true, not_true_eq_false]
      exact ⟨(y, n), ⟨by omega, by omega, by omega, by omega, by omega⟩, .sub ⟨rfl, rfl, trivial⟩⟩
  clear a1 a2 a3 a4 a5 y n
  rintro ⟨y, n⟩ ⟨a1, a2, a3, a4, a5⟩
  dsimp only at a1 a2 a3 a4 a5 ⊢
  have t := tab8 y.toNat (by omega) (by omega)
  have tb : ((UInt8.ofNat (Nat.log2 y.toNat + 1)).toNat : Int) = lg y + 1 := by
    have hb : Nat.log2 y.toNat < 8 := (Nat.log2_lt (by omega)).2 (by omega)
    unfold lg
    rw [UInt8.toNat_ofNat']
    omega
  have lb : 0 ≤ lg y ∧ lg y < 8 := by
    have hb : Nat.log2 y.toNat < 8 := (Nat.log2_lt (by omega)).2 (by omega)
    unfold lg
    omega
  have y0 : 0 ≤ y := by omega
  have yw : IntKind.u8.wrap y = y := wu8 y (by omega) (by omega)
  refine Lw.seq (Lw.ops ?_)
  unfold math_bits_Len64_r10
  repeat (apply OpsW.nx; · simp (disch := omega) only [yw, t, tb, w64, y0, ti3, ti5, ti9, ti49, next, frameOf, nextQ, valOp, wantS, lput, fset, fget_cons, fget_nil, Nat.reduceEqDiff, evalO, constLV, scalarLV, pureOp, lookBool, asI, lbinT, lbin, lun, loadOp, row, lpart, lcells, putC, sh, shL, shH, snap, hfreeL, hfree, ne_eq, not_true_eq_false, not_false_eq_true, reduceCtorEq, ↓reduceIte, if_true, if_false, Bool.not_true, Bool.not_false, Bool.false_eq_true, Bool.true_eq_false, Option.map_some, Option.map_none, Option.bind_some, List.map_cons, List.map_nil, List.getElem?_cons_zero, List.getElem?_cons_succ, List.length_cons, List.length_nil, List.cons_append, List.nil_append, List.append_nil, forall_const, decide_true, decide_false, eq_self, Int.reduceLT, true_and, and_true, false_and, and_false, true_implies, false_implies, implies_true, Nat.zero_add, Nat.add_zero]; exact rfl)
  try refine OpsW.nil ?_
  try simp only [Option.map_some, Option.map_none, ocase_some, ocase_none, true_and, and_true, eq_self, ↓seqQ, ↓blockQ, ↓retS, resS, lresL, frameOf, sh, shL, shH, List.length_nil, List.length_cons, List.nil_append, List.append_nil, lput, fset, fget_cons, fget_nil, Nat.reduceEqDiff, evalO, ↓reduceIte, Nat.zero_add, Nat.add_zero, reduceCtorEq, ne_eq, not_false_eq_true, not_true_eq_false]
  refine Lw.ret ?_
  simp only [Option.map_some, Option.map_none, ocase_some, ocase_none, true_and, and_true, eq_self, ↓seqQ, ↓blockQ, ↓retS, resS, lresL, frameOf, sh, shL, shH, List.length_nil, List.length_cons, List.nil_append, List.append_nil, lput, fset, fget_cons, fget_nil, Nat.reduceEqDiff, evalO, ↓reduceIte, Nat.zero_add, Nat.add_zero, reduceCtorEq, ne_eq, not_false_eq_true, not_true_eq_false]
  exact congrArg _ (by omega)
end Go.Proofs.Ytlcpbpkffdnmnaa
