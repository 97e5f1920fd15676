/- The plain law of DensityProducts: the logarithm of a product, and that of the double. -/
import Derived.Test.YtlcpbpkffdnmnaaDensE
set_option linter.unusedSimpArgs false
namespace Go.Proofs.Ytlcpbpkffdnmnaa
open Go Go.Lite

def nStep (s : Nat × Nat) : Nat × Nat :=
  if 2147483648 ≤ s.1 * s.1 / 1073741824 then (s.1 * s.1 / 1073741824 / 2, s.2 * 2 + 1) else (s.1 * s.1 / 1073741824, s.2 * 2)
def nIter (s : Nat × Nat) : Nat → Nat × Nat
  | 0 => s
  | n + 1 => nStep (nIter s n)

theorem iter_cast (y o : Nat) : ∀ n, logIter ((y : Int), (o : Int)) n = (((nIter (y, o) n).1 : Int), ((nIter (y, o) n).2 : Int)) := by
  intro n
  induction n with
  | zero => rfl
  | succ n ih =>
    simp only [logIter, nIter, ih]
    generalize nIter (y, o) n = s
    obtain ⟨y, o⟩ := s
    simp only [logStep, nStep]
    have e : (y : Int) * y / 1073741824 = ((y * y / 1073741824 : Nat) : Int) := by simp
    rw [e]
    generalize y * y / 1073741824 = q
    by_cases h : 2147483648 ≤ q
    · have h' : (2147483648 : Int) ≤ (q : Int) := by omega
      rw [if_pos h, if_pos h']
      simp only [Prod.mk.injEq]
      omega
    · have h' : ¬ (2147483648 : Int) ≤ (q : Int) := by omega
      rw [if_neg h, if_neg h']
      simp only [Prod.mk.injEq]
      exact ⟨trivial, by omega⟩

theorem iter_shift (y o c : Nat) : ∀ n, nIter (y, o + c) n = ((nIter (y, o) n).1, (nIter (y, o) n).2 + c * 2 ^ n) := by
  intro n
  induction n with
  | zero => simp [nIter]
  | succ n ih =>
    simp only [nIter, ih]
    generalize nIter (y, o) n = s
    obtain ⟨y, o⟩ := s
    simp only [nStep, Nat.pow_succ]
    generalize 2 ^ n = p
    have e : c * (p * 2) = c * p * 2 := by rw [Nat.mul_assoc]
    split <;> simp only [Prod.mk.injEq, true_and] <;> omega

/-- What a step keeps: y at o stands for X, from below, up to N + 1 over N to the e. -/
structure Near (N X e y o : Nat) : Prop where
  lo : N ≤ y
  hi : y < 2 * N
  up : y * 2 ^ o ≤ X * N
  dn : X * N * N ^ e ≤ y * 2 ^ o * (N + 1) ^ e

theorem grow {N z : Nat} (h : N ≤ z) : (z + 1) * N ≤ z * (N + 1) := by
  rw [Nat.add_mul, Nat.mul_add]
  omega

theorem near_step {N X e y o q y' o' : Nat} (hN : 0 < N) (h : Near N X e y o) (hq : q * y' ≤ y * y) (hq' : y * y < q * (y' + 1)) (hy : N ≤ y') (hy2 : y' < 2 * N) 
    (hqq : q * 2 ^ (o * 2) = N * 2 ^ o') : Near N (X * X) (2 * e + 1) y' o' := by
  have sq : 2 ^ (o * 2) = 2 ^ o * 2 ^ o := by rw [← Nat.pow_add]; congr 1; omega
  refine ⟨hy, hy2, ?_, ?_⟩
  · refine Nat.le_of_mul_le_mul_left ?_ hN
    calc N * (y' * 2 ^ o') = y' * (N * 2 ^ o') := by rw [Nat.mul_left_comm]
      _ = q * y' * 2 ^ (o * 2) := by rw [← hqq, ← Nat.mul_assoc, Nat.mul_comm y' q]
      _ ≤ y * y * 2 ^ (o * 2) := Nat.mul_le_mul_right _ hq
      _ = (y * 2 ^ o) * (y * 2 ^ o) := by rw [sq]; exact Nat.mul_mul_mul_comm _ _ _ _
      _ ≤ (X * N) * (X * N) := Nat.mul_le_mul h.up h.up
      _ = N * (X * X * N) := by ac_rfl
  · refine Nat.le_of_mul_le_mul_left ?_ hN
    have e1 : N ^ (2 * e + 1) = N ^ e * N ^ e * N := by rw [Nat.pow_succ, Nat.two_mul, Nat.pow_add]
    have e2 : (N + 1) ^ (2 * e + 1) = (N + 1) ^ e * (N + 1) ^ e * (N + 1) := by rw [Nat.pow_succ, Nat.two_mul, Nat.pow_add]
    rw [e1, e2]
    calc N * (X * X * N * (N ^ e * N ^ e * N)) = (X * N * N ^ e) * (X * N * N ^ e) * N := by ac_rfl
      _ ≤ (y * 2 ^ o * (N + 1) ^ e) * (y * 2 ^ o * (N + 1) ^ e) * N := Nat.mul_le_mul_right _ (Nat.mul_le_mul h.dn h.dn)
      _ = y * y * (2 ^ (o * 2) * ((N + 1) ^ e * (N + 1) ^ e) * N) := by rw [sq]; ac_rfl
      _ ≤ q * (y' + 1) * (2 ^ (o * 2) * ((N + 1) ^ e * (N + 1) ^ e) * N) := Nat.mul_le_mul_right _ (Nat.le_of_lt hq')
      _ = (y' + 1) * N * (q * 2 ^ (o * 2) * ((N + 1) ^ e * (N + 1) ^ e)) := by ac_rfl
      _ ≤ y' * (N + 1) * (q * 2 ^ (o * 2) * ((N + 1) ^ e * (N + 1) ^ e)) := Nat.mul_le_mul_right _ (grow hy)
      _ = N * (y' * 2 ^ o' * ((N + 1) ^ e * (N + 1) ^ e * (N + 1))) := by rw [hqq]; ac_rfl

theorem bern (N : Nat) : ∀ k, k ≤ N → (N + 1) ^ k * (N - k) ≤ N ^ (k + 1) := by
  intro k
  induction k with
  | zero => intro _; simp
  | succ k ih =>
    intro h
    have := ih (by omega)
    obtain ⟨d, rfl⟩ : ∃ d, N = k + 1 + d := ⟨N - (k + 1), by omega⟩
    rw [show k + 1 + d - k = d + 1 by omega] at this
    rw [show k + 1 + d - (k + 1) = d by omega]
    have e : (k + 1 + d + 1) * d ≤ (d + 1) * (k + 1 + d) := by
      simp only [Nat.add_mul, Nat.mul_add]
      rw [Nat.mul_comm k d]
      omega
    calc (k + 1 + d + 1) ^ (k + 1) * d = (k + 1 + d + 1) ^ k * ((k + 1 + d + 1) * d) := by rw [Nat.pow_succ, Nat.mul_assoc]
      _ ≤ (k + 1 + d + 1) ^ k * ((d + 1) * (k + 1 + d)) := Nat.mul_le_mul_left _ e
      _ = (k + 1 + d + 1) ^ k * (d + 1) * (k + 1 + d) := by rw [Nat.mul_assoc]
      _ ≤ (k + 1 + d) ^ (k + 1) * (k + 1 + d) := Nat.mul_le_mul_right _ this
      _ = (k + 1 + d) ^ (k + 1 + 1) := (Nat.pow_succ _ _).symm

theorem bern2 (N k : Nat) (hN : 0 < N) (h : 2 * k ≤ N) : (N + 1) ^ k ≤ 2 * N ^ k := by
  have b := bern N k (by omega)
  refine Nat.le_of_mul_le_mul_right ?_ hN
  have c : (N + 1) ^ k * N ≤ (N + 1) ^ k * (2 * (N - k)) := Nat.mul_le_mul_left _ (by omega)
  rw [Nat.pow_succ] at b
  calc (N + 1) ^ k * N ≤ (N + 1) ^ k * (2 * (N - k)) := c
    _ = 2 * ((N + 1) ^ k * (N - k)) := Nat.mul_left_comm _ _ _
    _ ≤ 2 * (N ^ k * N) := Nat.mul_le_mul_left _ b
    _ = 2 * N ^ k * N := (Nat.mul_assoc _ _ _).symm

/-- The logarithms of two numbers and of their product. -/
theorem near_prod {N e X Y x y z a b c : Nat} (hN : 0 < N) (he : 4 * e ≤ N) (hx : Near N X e x a) (hy : Near N Y e y b) (hz : Near N (X * Y) e z c) : a + b ≤ c + 1 ∧ c ≤ a + b + 2 := by
  have low : ∀ {X y o}, Near N X e y o → 2 ^ o ≤ X := fun {X y o} h => by
    refine Nat.le_of_mul_le_mul_right ?_ hN
    exact Nat.le_trans (by rw [Nat.mul_comm]; exact Nat.mul_le_mul_right _ h.lo) h.up
  have upp : ∀ {X y o}, Near N X e y o → X * N ^ e < 2 ^ (o + 1) * (N + 1) ^ e := fun {X y o} h => by
    refine Nat.lt_of_mul_lt_mul_right (a := N) ?_
    have p : 0 < 2 ^ o * (N + 1) ^ e := Nat.mul_pos (Nat.pow_pos (by decide)) (Nat.pow_pos (by omega))
    calc X * N ^ e * N = X * N * N ^ e := by ac_rfl
      _ ≤ y * 2 ^ o * (N + 1) ^ e := h.dn
      _ = y * (2 ^ o * (N + 1) ^ e) := Nat.mul_assoc _ _ _
      _ < 2 * N * (2 ^ o * (N + 1) ^ e) := Nat.mul_lt_mul_of_pos_right h.hi p
      _ = 2 ^ (o + 1) * (N + 1) ^ e * N := by rw [Nat.pow_succ]; ac_rfl
  have pn : 0 < N ^ e := Nat.pow_pos hN
  have b1 := bern2 N e hN (by omega)
  have b2 := bern2 N (e + e) hN (by omega)
  rw [Nat.pow_add, Nat.pow_add] at b2
  constructor
  · refine Nat.le_of_not_lt fun hh => ?_
    have l1 := Nat.mul_le_mul (low hx) (low hy)
    rw [← Nat.pow_add] at l1
    have l2 := upp hz
    have l3 : 2 ^ (c + 1 + 1) ≤ 2 ^ (a + b) := Nat.pow_le_pow_right (by decide) (by omega)
    have : 2 ^ (c + 1 + 1) * N ^ e < 2 ^ (c + 1 + 1) * N ^ e := by
      calc 2 ^ (c + 1 + 1) * N ^ e ≤ X * Y * N ^ e := Nat.mul_le_mul_right _ (Nat.le_trans l3 l1)
        _ < 2 ^ (c + 1) * (N + 1) ^ e := l2
        _ ≤ 2 ^ (c + 1) * (2 * N ^ e) := Nat.mul_le_mul_left _ b1
        _ = 2 ^ (c + 1 + 1) * N ^ e := by rw [Nat.pow_succ 2 (c + 1), Nat.mul_assoc]
    exact Nat.lt_irrefl _ this
  · refine Nat.le_of_not_lt fun hh => ?_
    have l1 := low hz
    have l2 := Nat.mul_lt_mul_of_lt_of_lt (upp hx) (upp hy)
    have l3 : 2 ^ (a + 1 + (b + 1) + 1) ≤ 2 ^ c := Nat.pow_le_pow_right (by decide) (by omega)
    have : 2 ^ (a + 1 + (b + 1) + 1) * (N ^ e * N ^ e) < 2 ^ (a + 1 + (b + 1) + 1) * (N ^ e * N ^ e) := by
      calc 2 ^ (a + 1 + (b + 1) + 1) * (N ^ e * N ^ e) ≤ X * Y * (N ^ e * N ^ e) := Nat.mul_le_mul_right _ (Nat.le_trans l3 l1)
        _ = X * N ^ e * (Y * N ^ e) := Nat.mul_mul_mul_comm _ _ _ _
        _ < 2 ^ (a + 1) * (N + 1) ^ e * (2 ^ (b + 1) * (N + 1) ^ e) := l2
        _ = 2 ^ (a + 1 + (b + 1)) * ((N + 1) ^ e * (N + 1) ^ e) := by rw [Nat.pow_add 2 (a + 1) (b + 1)]; exact Nat.mul_mul_mul_comm _ _ _ _
        _ ≤ 2 ^ (a + 1 + (b + 1)) * (2 * (N ^ e * N ^ e)) := Nat.mul_le_mul_left _ b2
        _ = 2 ^ (a + 1 + (b + 1) + 1) * (N ^ e * N ^ e) := by rw [Nat.pow_succ 2 (a + 1 + (b + 1)), Nat.mul_assoc]
    exact Nat.lt_irrefl _ this

theorem near_one {X e y o : Nat} (h : Near 1073741824 X e y o) : Near 1073741824 (X * X) (2 * e + 1) (nStep (y, o)).1 (nStep (y, o)).2 := by
  have l := Nat.mul_le_mul h.lo h.lo
  have u := Nat.mul_lt_mul_of_lt_of_lt h.hi h.hi
  simp only [nStep]
  have dv : ∀ m, m / 1073741824 / 2 = m / 2147483648 := fun m => by omega
  generalize hm : y * y = m at *
  by_cases hc : 2147483648 ≤ m / 1073741824
  · rw [if_pos hc]
    refine near_step (q := 2147483648) (by decide) h ?_ ?_ ?_ ?_ ?_
    · simp only; omega
    · simp only; omega
    · simp only; omega
    · simp only; omega
    · simp only [Nat.pow_succ]; generalize 2 ^ (o * 2) = p; omega
  · rw [if_neg hc]
    refine near_step (q := 1073741824) (by decide) h ?_ ?_ ?_ ?_ rfl
    · simp only; omega
    · simp only; omega
    · simp only; omega
    · simp only; omega

def eAt : Nat → Nat
  | 0 => 1
  | n + 1 => 2 * eAt n + 1
def powAt (X : Nat) : Nat → Nat
  | 0 => X
  | n + 1 => powAt X n * powAt X n

theorem powAt_mul (X Y : Nat) : ∀ n, powAt (X * Y) n = powAt X n * powAt Y n := by
  intro n
  induction n with
  | zero => rfl
  | succ n ih => simp only [powAt, ih]; exact Nat.mul_mul_mul_comm _ _ _ _

theorem near_iter {X y o : Nat} (h : Near 1073741824 X 1 y o) : ∀ n, Near 1073741824 (powAt X n) (eAt n) (nIter (y, o) n).1 (nIter (y, o) n).2 := by
  intro n
  induction n with
  | zero => exact h
  | succ n ih => exact near_one ih

/-- Where the logarithm begins. -/
theorem near_start (x : Nat) (h1 : 1 ≤ x) (h2 : x < 9223372036854775808) : ∃ y : Nat, logStart (x : Int) = ((y : Int), ((Nat.log2 x : Nat) : Int)) ∧ Near 1073741824 x 1 y (Nat.log2 x) := by
  have hb : Nat.log2 x < 63 := (Nat.log2_lt (by omega)).2 (by omega)
  obtain ⟨a, b⟩ := (Nat.log2_eq_iff (show x ≠ 0 by omega)).1 rfl
  generalize hl : x.log2 = l at *
  have up : logUp (x : Int) = ((x * 2 ^ (63 - l) : Nat) : Int) := by
    unfold logUp lg
    rw [Int.toNat_natCast, hl]
    have e : min (63 - (l : Int)).toNat IntKind.u64.bits = 63 - l := by
      show min (63 - (l : Int)).toNat 64 = 63 - l
      omega
    rw [e]
    simp
  refine ⟨x * 2 ^ (63 - l) / 8589934592, ?_, ?_⟩
  · unfold logStart lg
    rw [up, Int.toNat_natCast, hl]
    simp
  · have d1 : 2 ^ l * 2 ^ (63 - l) ≤ x * 2 ^ (63 - l) := Nat.mul_le_mul_right _ a
    have d2 : x * 2 ^ (63 - l) < 2 ^ (l + 1) * 2 ^ (63 - l) := Nat.mul_lt_mul_of_pos_right b (Nat.pow_pos (by decide))
    rw [← Nat.pow_add] at d1 d2
    rw [show l + (63 - l) = 63 by omega] at d1
    rw [show l + 1 + (63 - l) = 64 by omega] at d2
    have pp : 2 ^ (63 - l) * 2 ^ l = 9223372036854775808 := by rw [← Nat.pow_add, show 63 - l + l = 63 by omega]
    have xp : x * 2 ^ (63 - l) * 2 ^ l = x * 9223372036854775808 := by rw [Nat.mul_assoc, pp]
    generalize x * 2 ^ (63 - l) = u at *
    have q1 : 8589934592 * (u / 8589934592) ≤ u := Nat.mul_div_le _ _
    have q2 : u < 8589934592 * (u / 8589934592 + 1) := by omega
    generalize u / 8589934592 = y at *
    refine ⟨by omega, by omega, ?_, ?_⟩
    · have := Nat.mul_le_mul_right (2 ^ l) q1
      rw [xp, Nat.mul_assoc] at this
      omega
    · have g := Nat.mul_le_mul_right (2 ^ l) (Nat.le_of_lt q2)
      rw [xp, Nat.mul_assoc] at g
      have g2 := Nat.mul_le_mul_right (2 ^ l) (grow (show 1073741824 ≤ y by omega))
      rw [Nat.mul_right_comm] at g2
      rw [Nat.pow_one, Nat.pow_one]
      have e1 : y * (1073741824 + 1) * 2 ^ l = y * 2 ^ l * (1073741824 + 1) := Nat.mul_right_comm _ _ _
      rw [e1] at g2
      generalize (y + 1) * 2 ^ l = s at *
      generalize y * 2 ^ l = t at *
      have k1 : x * 1073741824 ≤ s := by
        refine Nat.le_of_mul_le_mul_left ?_ (show 0 < 8589934592 by decide)
        rw [Nat.mul_left_comm]
        exact g
      exact Nat.le_trans (Nat.mul_le_mul_right 1073741824 k1) g2

theorem logm_near (x : Nat) (h1 : 1 ≤ x) (h2 : x < 9223372036854775808) : ∃ y o : Nat, logm (x : Int) = ((o : Nat) : Int) ∧ Near 1073741824 (powAt x 16) (eAt 16) y o := by
  obtain ⟨y, e, h⟩ := near_start x h1 h2
  refine ⟨_, _, ?_, near_iter h 16⟩
  unfold logm
  rw [e, iter_cast]

theorem logm_prod (x y : Nat) (h1 : 1 ≤ x) (h2 : 1 ≤ y) (h3 : x ≤ 1048576) (h4 : y ≤ 1048576) :
    -1 ≤ logm ((x : Int) * y) - logm x - logm y ∧ logm ((x : Int) * y) - logm x - logm y ≤ 2 := by
  have p1 := Nat.mul_le_mul h1 h2
  have p2 := Nat.mul_le_mul h3 h4
  obtain ⟨u, a, ea, na⟩ := logm_near x h1 (by omega)
  obtain ⟨v, b, eb, nb⟩ := logm_near y h2 (by omega)
  obtain ⟨w, c, ec, nc⟩ := logm_near (x * y) (by omega) (by omega)
  rw [powAt_mul] at nc
  obtain ⟨q1, q2⟩ := near_prod (by decide) (show 4 * eAt 16 ≤ 1073741824 by decide +kernel) na nb nc
  rw [show ((x : Int) * y) = ((x * y : Nat) : Int) by simp, ea, eb, ec]
  omega

theorem logm_twice (x : Nat) (h1 : 1 ≤ x) (h2 : x < 4611686018427387904) : logm (2 * (x : Int)) = logm x + 65536 := by
  have hb : Nat.log2 x < 62 := (Nat.log2_lt (by omega)).2 (by omega)
  have l2 : Nat.log2 (2 * x) = Nat.log2 x + 1 := by
    obtain ⟨a, b⟩ := (Nat.log2_eq_iff (show x ≠ 0 by omega)).1 rfl
    refine (Nat.log2_eq_iff (by omega)).2 ?_
    rw [Nat.pow_succ 2 (x.log2 + 1), Nat.pow_succ 2 x.log2] at *
    omega
  obtain ⟨y, e, _⟩ := near_start x h1 (by omega)
  have up : logUp (2 * (x : Int)) = logUp (x : Int) := by
    have e0 : (2 * (x : Int)).toNat = 2 * x := by omega
    unfold logUp lg
    rw [e0, Int.toNat_natCast, l2]
    have e1 : min (63 - ((x.log2 + 1 : Nat) : Int)).toNat IntKind.u64.bits = 62 - x.log2 := by
      show min (63 - ((x.log2 + 1 : Nat) : Int)).toNat 64 = _
      omega
    have e2 : min (63 - (x.log2 : Int)).toNat IntKind.u64.bits = 62 - x.log2 + 1 := by
      show min (63 - (x.log2 : Int)).toNat 64 = _
      omega
    rw [e1, e2, Int.pow_succ, Int.mul_comm 2 (x : Int), Int.mul_assoc, Int.mul_comm 2]
  have st : logStart (2 * (x : Int)) = ((y : Int), ((Nat.log2 x + 1 : Nat) : Int)) := by
    have e0 : (2 * (x : Int)).toNat = 2 * x := by omega
    have e' := e
    unfold logStart lg at e' ⊢
    rw [up, e0, l2]
    simp only [Prod.mk.injEq] at e' ⊢
    exact ⟨e'.1, trivial⟩
  unfold logm
  rw [st, e, iter_cast, iter_cast, iter_shift]
  simp only
  omega

theorem log2_any (x : Int) (h1 : 1 ≤ x) (h2 : x ≤ 1099511627776) : LCalls Try.prog 10 [.int .i64 x] fun v H => v = .tup [.int .i64 (logm x), .int .i64 0] ∧ H = [] := by
  have e1 : decide (x < 1) = false := by simp; omega
  have e2 : decide (x > 1099511627776) = false := by simp; omega
  refine lcalls density_Log2_s (by simp [density_Log2_c]) ?_
  unfold density_Log2_c
  refine Lw.seq (Lw.ops ?_)
  unfold density_Log2_r0
  repeat (apply OpsW.nx; · simp (disch := omega) only [next, frameOf, nextQ, valOp, wantS, lput, fset, fget_cons, fget_nil, Nat.reduceEqDiff, evalO, constLV, scalarLV, pureOp, lookBool, asI, lbinT, lbin, lun, loadOp, row, lpart, lcells, putC, sh, shL, shH, snap, hfreeL, hfree, ne_eq, not_true_eq_false, not_false_eq_true, reduceCtorEq, ↓reduceIte, if_true, if_false, Bool.not_true, Bool.not_false, Bool.false_eq_true, Bool.true_eq_false, Option.map_some, Option.map_none, Option.bind_some, List.map_cons, List.map_nil, List.getElem?_cons_zero, List.getElem?_cons_succ, List.length_cons, List.length_nil, List.cons_append, List.nil_append, List.append_nil, forall_const, decide_true, decide_false, eq_self, Int.reduceLT, true_and, and_true, false_and, and_false, true_implies, false_implies, implies_true, Nat.zero_add, Nat.add_zero]; exact rfl)
  try refine OpsW.nil ?_
  try simp only [Option.map_some, Option.map_none, ocase_some, ocase_none, true_and, and_true, eq_self, ↓seqQ, ↓blockQ, ↓retS, resS, lresL, frameOf, sh, shL, shH, List.length_nil, List.length_cons, List.nil_append, List.append_nil, lput, fset, fget_cons, fget_nil, Nat.reduceEqDiff, evalO, ↓reduceIte, Nat.zero_add, Nat.add_zero, reduceCtorEq, ne_eq, not_false_eq_true, not_true_eq_false]
  refine Lw.seq (Lw.seq (Lw.ops ?_))
  unfold density_Log2_r1
  repeat (apply OpsW.nx; · simp (disch := omega) only [e1, e2, ti3, next, frameOf, nextQ, valOp, wantS, lput, fset, fget_cons, fget_nil, Nat.reduceEqDiff, evalO, constLV, scalarLV, pureOp, lookBool, asI, lbinT, lbin, lun, loadOp, row, lpart, lcells, putC, sh, shL, shH, snap, hfreeL, hfree, ne_eq, not_true_eq_false, not_false_eq_true, reduceCtorEq, ↓reduceIte, if_true, if_false, Bool.not_true, Bool.not_false, Bool.false_eq_true, Bool.true_eq_false, Option.map_some, Option.map_none, Option.bind_some, List.map_cons, List.map_nil, List.getElem?_cons_zero, List.getElem?_cons_succ, List.length_cons, List.length_nil, List.cons_append, List.nil_append, List.append_nil, forall_const, decide_true, decide_false, eq_self, Int.reduceLT, true_and, and_true, false_and, and_false, true_implies, false_implies, implies_true, Nat.zero_add, Nat.add_zero]; exact rfl)
  try refine OpsW.nil ?_
  try simp only [Option.map_some, Option.map_none, ocase_some, ocase_none, true_and, and_true, eq_self, ↓seqQ, ↓blockQ, ↓retS, resS, lresL, frameOf, sh, shL, shH, List.length_nil, List.length_cons, List.nil_append, List.append_nil, lput, fset, fget_cons, fget_nil, Nat.reduceEqDiff, evalO, ↓reduceIte, Nat.zero_add, Nat.add_zero, reduceCtorEq, ne_eq, not_false_eq_true, not_true_eq_false]
  refine Lw.cond rfl (fun h => Bool.noConfusion h) (fun _ => Lw.skip ?_)
  try simp only [Option.map_some, Option.map_none, ocase_some, ocase_none, true_and, and_true, eq_self, ↓seqQ, ↓blockQ, ↓retS, resS, lresL, frameOf, sh, shL, shH, List.length_nil, List.length_cons, List.nil_append, List.append_nil, lput, fset, fget_cons, fget_nil, Nat.reduceEqDiff, evalO, ↓reduceIte, Nat.zero_add, Nat.add_zero, reduceCtorEq, ne_eq, not_false_eq_true, not_true_eq_false]
  refine Lw.seq (Lw.ops ?_)
  unfold density_Log2_r3
  repeat (apply OpsW.nx; · simp (disch := omega) only [ti3, next, frameOf, nextQ, valOp, wantS, lput, fset, fget_cons, fget_nil, Nat.reduceEqDiff, evalO, constLV, scalarLV, pureOp, lookBool, asI, lbinT, lbin, lun, loadOp, row, lpart, lcells, putC, sh, shL, shH, snap, hfreeL, hfree, ne_eq, not_true_eq_false, not_false_eq_true, reduceCtorEq, ↓reduceIte, if_true, if_false, Bool.not_true, Bool.not_false, Bool.false_eq_true, Bool.true_eq_false, Option.map_some, Option.map_none, Option.bind_some, List.map_cons, List.map_nil, List.getElem?_cons_zero, List.getElem?_cons_succ, List.length_cons, List.length_nil, List.cons_append, List.nil_append, List.append_nil, forall_const, decide_true, decide_false, eq_self, Int.reduceLT, true_and, and_true, false_and, and_false, true_implies, false_implies, implies_true, Nat.zero_add, Nat.add_zero]; exact rfl)
  try refine OpsW.nil ?_
  try simp only [Option.map_some, Option.map_none, ocase_some, ocase_none, true_and, and_true, eq_self, ↓seqQ, ↓blockQ, ↓retS, resS, lresL, frameOf, sh, shL, shH, List.length_nil, List.length_cons, List.nil_append, List.append_nil, lput, fset, fget_cons, fget_nil, Nat.reduceEqDiff, evalO, ↓reduceIte, Nat.zero_add, Nat.add_zero, reduceCtorEq, ne_eq, not_false_eq_true, not_true_eq_false]
  apply OpsW.arg; · first | rfl | simp (disch := omega) only [ti3, next, frameOf, nextQ, valOp, wantS, lput, fset, fget_cons, fget_nil, Nat.reduceEqDiff, evalO, constLV, scalarLV, pureOp, lookBool, asI, lbinT, lbin, lun, loadOp, row, lpart, lcells, putC, sh, shL, shH, snap, hfreeL, hfree, ne_eq, not_true_eq_false, not_false_eq_true, reduceCtorEq, ↓reduceIte, if_true, if_false, Bool.not_true, Bool.not_false, Bool.false_eq_true, Bool.true_eq_false, Option.map_some, Option.map_none, Option.bind_some, List.map_cons, List.map_nil, List.getElem?_cons_zero, List.getElem?_cons_succ, List.length_cons, List.length_nil, List.cons_append, List.nil_append, List.append_nil, forall_const, decide_true, decide_false, eq_self, Int.reduceLT, true_and, and_true, false_and, and_false, true_implies, false_implies, implies_true, Nat.zero_add, Nat.add_zero]
  · simp (disch := omega) only [ti3, next, frameOf, nextQ, valOp, wantS, lput, fset, fget_cons, fget_nil, Nat.reduceEqDiff, evalO, constLV, scalarLV, pureOp, lookBool, asI, lbinT, lbin, lun, loadOp, row, lpart, lcells, putC, sh, shL, shH, snap, hfreeL, hfree, ne_eq, not_true_eq_false, not_false_eq_true, reduceCtorEq, ↓reduceIte, if_true, if_false, Bool.not_true, Bool.not_false, Bool.false_eq_true, Bool.true_eq_false, Option.map_some, Option.map_none, Option.bind_some, List.map_cons, List.map_nil, List.getElem?_cons_zero, List.getElem?_cons_succ, List.length_cons, List.length_nil, List.cons_append, List.nil_append, List.append_nil, forall_const, decide_true, decide_false, eq_self, Int.reduceLT, true_and, and_true, false_and, and_false, true_implies, false_implies, implies_true, Nat.zero_add, Nat.add_zero]; exact rfl
  refine OpsC.of (log_any x h1 (by omega)) rfl ?_
  rintro _ _ ⟨rfl, rfl⟩
  try simp only [Option.map_some, Option.map_none, ocase_some, ocase_none, true_and, and_true, eq_self, ↓seqQ, ↓blockQ, ↓retS, resS, lresL, frameOf, sh, shL, shH, List.length_nil, List.length_cons, List.nil_append, List.append_nil, lput, fset, fget_cons, fget_nil, Nat.reduceEqDiff, evalO, ↓reduceIte, Nat.zero_add, Nat.add_zero, reduceCtorEq, ne_eq, not_false_eq_true, not_true_eq_false]
  repeat (apply OpsW.nx; · simp (disch := omega) only [ti3, next, frameOf, nextQ, valOp, wantS, lput, fset, fget_cons, fget_nil, Nat.reduceEqDiff, evalO, constLV, scalarLV, pureOp, lookBool, asI, lbinT, lbin, lun, loadOp, row, lpart, lcells, putC, sh, shL, shH, snap, hfreeL, hfree, ne_eq, not_true_eq_false, not_false_eq_true, reduceCtorEq, ↓reduceIte, if_true, if_false, Bool.not_true, Bool.not_false, Bool.false_eq_true, Bool.true_eq_false, Option.map_some, Option.map_none, Option.bind_some, List.map_cons, List.map_nil, List.getElem?_cons_zero, List.getElem?_cons_succ, List.length_cons, List.length_nil, List.cons_append, List.nil_append, List.append_nil, forall_const, decide_true, decide_false, eq_self, Int.reduceLT, true_and, and_true, false_and, and_false, true_implies, false_implies, implies_true, Nat.zero_add, Nat.add_zero]; exact rfl)
  try refine OpsW.nil ?_
  try simp only [Option.map_some, Option.map_none, ocase_some, ocase_none, true_and, and_true, eq_self, ↓seqQ, ↓blockQ, ↓retS, resS, lresL, frameOf, sh, shL, shH, List.length_nil, List.length_cons, List.nil_append, List.append_nil, lput, fset, fget_cons, fget_nil, Nat.reduceEqDiff, evalO, ↓reduceIte, Nat.zero_add, Nat.add_zero, reduceCtorEq, ne_eq, not_false_eq_true, not_true_eq_false]
  refine Lw.ret ?_
  simp only [Option.map_some, Option.map_none, ocase_some, ocase_none, true_and, and_true, eq_self, ↓seqQ, ↓blockQ, ↓retS, resS, lresL, frameOf, sh, shL, shH, List.length_nil, List.length_cons, List.nil_append, List.append_nil, lput, fset, fget_cons, fget_nil, Nat.reduceEqDiff, evalO, ↓reduceIte, Nat.zero_add, Nat.add_zero, reduceCtorEq, ne_eq, not_false_eq_true, not_true_eq_false]

theorem densityProducts_any (a0 a1 : Int) (w0 : -9223372036854775808 ≤ a0 ∧ a0 ≤ 9223372036854775807) (w1 : -9223372036854775808 ≤ a1 ∧ a1 ≤ 9223372036854775807) :
    LCalls Try.prog 3 [.int .i64 a0, .int .i64 a1] fun x _ => x = .bool true := by
  have b0 := Int.emod_nonneg a0 (show (1048576 : Int) ≠ 0 by omega)
  have b1 := Int.emod_lt_of_pos a0 (show (0 : Int) < 1048576 by omega)
  have c0 := Int.emod_nonneg a1 (show (1048576 : Int) ≠ 0 by omega)
  have c1 := Int.emod_lt_of_pos a1 (show (0 : Int) < 1048576 by omega)
  obtain ⟨x, hx⟩ := Int.eq_ofNat_of_zero_le (show 0 ≤ 1 + a0 % 1048576 by omega)
  obtain ⟨y, hy⟩ := Int.eq_ofNat_of_zero_le (show 0 ≤ 1 + a1 % 1048576 by omega)
  obtain ⟨g1, g2⟩ := logm_prod x y (by omega) (by omega) (by omega) (by omega)
  have g3 := logm_twice x (by omega) (by omega)
  have p1 := Nat.mul_le_mul (show 1 ≤ x by omega) (show 1 ≤ y by omega)
  have p2 := Nat.mul_le_mul (show x ≤ 1048576 by omega) (show y ≤ 1048576 by omega)
  have xy : (x : Int) * y = ((x * y : Nat) : Int) := by simp
  have hw : IntKind.i64.wrap ((x : Int) * y) = (x : Int) * y := w64 _ (by rw [xy]; omega) (by rw [xy]; omega)
  obtain ⟨r1, r2⟩ := logm_bd x (by omega) (by omega)
  obtain ⟨s1, s2⟩ := logm_bd y (by omega) (by omega)
  obtain ⟨t1, t2⟩ := logm_bd ((x : Int) * y) (by rw [xy]; omega) (by rw [xy]; omega)
  have k1 : decide (logm ((x : Int) * y) - logm x - logm y ≥ -1) = true := by simp; omega
  have k2 : decide (logm ((x : Int) * y) - logm x - logm y ≤ 2) = true := by simp; omega
  refine lcalls K2_DensityProducts_s (by simp [K2_DensityProducts_c]) ?_
  unfold K2_DensityProducts_c
  refine Lw.seq (Lw.ops ?_)
  unfold K2_DensityProducts_r0
  repeat (apply OpsW.nx; · simp (disch := omega) only [next, frameOf, nextQ, valOp, wantS, lput, fset, fget_cons, fget_nil, Nat.reduceEqDiff, evalO, constLV, scalarLV, pureOp, lookBool, asI, lbinT, lbin, lun, loadOp, row, lpart, lcells, putC, sh, shL, shH, snap, hfreeL, hfree, ne_eq, not_true_eq_false, not_false_eq_true, reduceCtorEq, ↓reduceIte, if_true, if_false, Bool.not_true, Bool.not_false, Bool.false_eq_true, Bool.true_eq_false, Option.map_some, Option.map_none, Option.bind_some, List.map_cons, List.map_nil, List.getElem?_cons_zero, List.getElem?_cons_succ, List.length_cons, List.length_nil, List.cons_append, List.nil_append, List.append_nil, forall_const, decide_true, decide_false, eq_self, Int.reduceLT, true_and, and_true, false_and, and_false, true_implies, false_implies, implies_true, Nat.zero_add, Nat.add_zero]; exact rfl)
  try refine OpsW.nil ?_
  try simp only [Option.map_some, Option.map_none, ocase_some, ocase_none, true_and, and_true, eq_self, ↓seqQ, ↓blockQ, ↓retS, resS, lresL, frameOf, sh, shL, shH, List.length_nil, List.length_cons, List.nil_append, List.append_nil, lput, fset, fget_cons, fget_nil, Nat.reduceEqDiff, evalO, ↓reduceIte, Nat.zero_add, Nat.add_zero, reduceCtorEq, ne_eq, not_false_eq_true, not_true_eq_false]
  refine Lw.seq (Lw.seq (Lw.ops ?_))
  unfold K2_DensityProducts_r1
  repeat (apply OpsW.nx; · simp (disch := omega) only [next, frameOf, nextQ, valOp, wantS, lput, fset, fget_cons, fget_nil, Nat.reduceEqDiff, evalO, constLV, scalarLV, pureOp, lookBool, asI, lbinT, lbin, lun, loadOp, row, lpart, lcells, putC, sh, shL, shH, snap, hfreeL, hfree, ne_eq, not_true_eq_false, not_false_eq_true, reduceCtorEq, ↓reduceIte, if_true, if_false, Bool.not_true, Bool.not_false, Bool.false_eq_true, Bool.true_eq_false, Option.map_some, Option.map_none, Option.bind_some, List.map_cons, List.map_nil, List.getElem?_cons_zero, List.getElem?_cons_succ, List.length_cons, List.length_nil, List.cons_append, List.nil_append, List.append_nil, forall_const, decide_true, decide_false, eq_self, Int.reduceLT, true_and, and_true, false_and, and_false, true_implies, false_implies, implies_true, Nat.zero_add, Nat.add_zero]; exact rfl)
  try refine OpsW.nil ?_
  try simp only [Option.map_some, Option.map_none, ocase_some, ocase_none, true_and, and_true, eq_self, ↓seqQ, ↓blockQ, ↓retS, resS, lresL, frameOf, sh, shL, shH, List.length_nil, List.length_cons, List.nil_append, List.append_nil, lput, fset, fget_cons, fget_nil, Nat.reduceEqDiff, evalO, ↓reduceIte, Nat.zero_add, Nat.add_zero, reduceCtorEq, ne_eq, not_false_eq_true, not_true_eq_false]
  apply OpsW.arg; · first | rfl | simp (disch := omega) only [next, frameOf, nextQ, valOp, wantS, lput, fset, fget_cons, fget_nil, Nat.reduceEqDiff, evalO, constLV, scalarLV, pureOp, lookBool, asI, lbinT, lbin, lun, loadOp, row, lpart, lcells, putC, sh, shL, shH, snap, hfreeL, hfree, ne_eq, not_true_eq_false, not_false_eq_true, reduceCtorEq, ↓reduceIte, if_true, if_false, Bool.not_true, Bool.not_false, Bool.false_eq_true, Bool.true_eq_false, Option.map_some, Option.map_none, Option.bind_some, List.map_cons, List.map_nil, List.getElem?_cons_zero, List.getElem?_cons_succ, List.length_cons, List.length_nil, List.cons_append, List.nil_append, List.append_nil, forall_const, decide_true, decide_false, eq_self, Int.reduceLT, true_and, and_true, false_and, and_false, true_implies, false_implies, implies_true, Nat.zero_add, Nat.add_zero]
  · simp (disch := omega) only [next, frameOf, nextQ, valOp, wantS, lput, fset, fget_cons, fget_nil, Nat.reduceEqDiff, evalO, constLV, scalarLV, pureOp, lookBool, asI, lbinT, lbin, lun, loadOp, row, lpart, lcells, putC, sh, shL, shH, snap, hfreeL, hfree, ne_eq, not_true_eq_false, not_false_eq_true, reduceCtorEq, ↓reduceIte, if_true, if_false, Bool.not_true, Bool.not_false, Bool.false_eq_true, Bool.true_eq_false, Option.map_some, Option.map_none, Option.bind_some, List.map_cons, List.map_nil, List.getElem?_cons_zero, List.getElem?_cons_succ, List.length_cons, List.length_nil, List.cons_append, List.nil_append, List.append_nil, forall_const, decide_true, decide_false, eq_self, Int.reduceLT, true_and, and_true, false_and, and_false, true_implies, false_implies, implies_true, Nat.zero_add, Nat.add_zero]; exact rfl
  refine OpsC.of (densityWorks_any) rfl ?_
  rintro _ _ ⟨rfl, rfl⟩
  try simp only [Option.map_some, Option.map_none, ocase_some, ocase_none, true_and, and_true, eq_self, ↓seqQ, ↓blockQ, ↓retS, resS, lresL, frameOf, sh, shL, shH, List.length_nil, List.length_cons, List.nil_append, List.append_nil, lput, fset, fget_cons, fget_nil, Nat.reduceEqDiff, evalO, ↓reduceIte, Nat.zero_add, Nat.add_zero, reduceCtorEq, ne_eq, not_false_eq_true, not_true_eq_false]
  repeat (apply OpsW.nx; · simp (disch := omega) only [next, frameOf, nextQ, valOp, wantS, lput, fset, fget_cons, fget_nil, Nat.reduceEqDiff, evalO, constLV, scalarLV, pureOp, lookBool, asI, lbinT, lbin, lun, loadOp, row, lpart, lcells, putC, sh, shL, shH, snap, hfreeL, hfree, ne_eq, not_true_eq_false, not_false_eq_true, reduceCtorEq, ↓reduceIte, if_true, if_false, Bool.not_true, Bool.not_false, Bool.false_eq_true, Bool.true_eq_false, Option.map_some, Option.map_none, Option.bind_some, List.map_cons, List.map_nil, List.getElem?_cons_zero, List.getElem?_cons_succ, List.length_cons, List.length_nil, List.cons_append, List.nil_append, List.append_nil, forall_const, decide_true, decide_false, eq_self, Int.reduceLT, true_and, and_true, false_and, and_false, true_implies, false_implies, implies_true, Nat.zero_add, Nat.add_zero]; exact rfl)
  try refine OpsW.nil ?_
  try simp only [Option.map_some, Option.map_none, ocase_some, ocase_none, true_and, and_true, eq_self, ↓seqQ, ↓blockQ, ↓retS, resS, lresL, frameOf, sh, shL, shH, List.length_nil, List.length_cons, List.nil_append, List.append_nil, lput, fset, fget_cons, fget_nil, Nat.reduceEqDiff, evalO, ↓reduceIte, Nat.zero_add, Nat.add_zero, reduceCtorEq, ne_eq, not_false_eq_true, not_true_eq_false]
  refine Lw.cond rfl (fun h => Bool.noConfusion h) (fun _ => Lw.skip ?_)
  try simp only [Option.map_some, Option.map_none, ocase_some, ocase_none, true_and, and_true, eq_self, ↓seqQ, ↓blockQ, ↓retS, resS, lresL, frameOf, sh, shL, shH, List.length_nil, List.length_cons, List.nil_append, List.append_nil, lput, fset, fget_cons, fget_nil, Nat.reduceEqDiff, evalO, ↓reduceIte, Nat.zero_add, Nat.add_zero, reduceCtorEq, ne_eq, not_false_eq_true, not_true_eq_false]
  refine Lw.seq (Lw.ops ?_)
  unfold K2_DensityProducts_r3
  repeat (apply OpsW.nx; · simp (disch := omega) only [ti3, ti9, next, frameOf, nextQ, valOp, wantS, lput, fset, fget_cons, fget_nil, Nat.reduceEqDiff, evalO, constLV, scalarLV, pureOp, lookBool, asI, lbinT, lbin, lun, loadOp, row, lpart, lcells, putC, sh, shL, shH, snap, hfreeL, hfree, ne_eq, not_true_eq_false, not_false_eq_true, reduceCtorEq, ↓reduceIte, if_true, if_false, Bool.not_true, Bool.not_false, Bool.false_eq_true, Bool.true_eq_false, Option.map_some, Option.map_none, Option.bind_some, List.map_cons, List.map_nil, List.getElem?_cons_zero, List.getElem?_cons_succ, List.length_cons, List.length_nil, List.cons_append, List.nil_append, List.append_nil, forall_const, decide_true, decide_false, eq_self, Int.reduceLT, true_and, and_true, false_and, and_false, true_implies, false_implies, implies_true, Nat.zero_add, Nat.add_zero]; exact rfl)
  try refine OpsW.nil ?_
  try simp only [Option.map_some, Option.map_none, ocase_some, ocase_none, true_and, and_true, eq_self, ↓seqQ, ↓blockQ, ↓retS, resS, lresL, frameOf, sh, shL, shH, List.length_nil, List.length_cons, List.nil_append, List.append_nil, lput, fset, fget_cons, fget_nil, Nat.reduceEqDiff, evalO, ↓reduceIte, Nat.zero_add, Nat.add_zero, reduceCtorEq, ne_eq, not_false_eq_true, not_true_eq_false]
  apply OpsW.arg; · first | rfl | simp (disch := omega) only [w64, hx, ti3, ti9, next, frameOf, nextQ, valOp, wantS, lput, fset, fget_cons, fget_nil, Nat.reduceEqDiff, evalO, constLV, scalarLV, pureOp, lookBool, asI, lbinT, lbin, lun, loadOp, row, lpart, lcells, putC, sh, shL, shH, snap, hfreeL, hfree, ne_eq, not_true_eq_false, not_false_eq_true, reduceCtorEq, ↓reduceIte, if_true, if_false, Bool.not_true, Bool.not_false, Bool.false_eq_true, Bool.true_eq_false, Option.map_some, Option.map_none, Option.bind_some, List.map_cons, List.map_nil, List.getElem?_cons_zero, List.getElem?_cons_succ, List.length_cons, List.length_nil, List.cons_append, List.nil_append, List.append_nil, forall_const, decide_true, decide_false, eq_self, Int.reduceLT, true_and, and_true, false_and, and_false, true_implies, false_implies, implies_true, Nat.zero_add, Nat.add_zero]
  · simp (disch := omega) only [w64, hx, ti3, ti9, next, frameOf, nextQ, valOp, wantS, lput, fset, fget_cons, fget_nil, Nat.reduceEqDiff, evalO, constLV, scalarLV, pureOp, lookBool, asI, lbinT, lbin, lun, loadOp, row, lpart, lcells, putC, sh, shL, shH, snap, hfreeL, hfree, ne_eq, not_true_eq_false, not_false_eq_true, reduceCtorEq, ↓reduceIte, if_true, if_false, Bool.not_true, Bool.not_false, Bool.false_eq_true, Bool.true_eq_false, Option.map_some, Option.map_none, Option.bind_some, List.map_cons, List.map_nil, List.getElem?_cons_zero, List.getElem?_cons_succ, List.length_cons, List.length_nil, List.cons_append, List.nil_append, List.append_nil, forall_const, decide_true, decide_false, eq_self, Int.reduceLT, true_and, and_true, false_and, and_false, true_implies, false_implies, implies_true, Nat.zero_add, Nat.add_zero]; exact rfl
  refine OpsC.of (mod_any a0 1048576 (by omega) (by omega) (by omega) (by omega)) rfl ?_
  rintro _ _ ⟨rfl, rfl⟩
  try simp only [Option.map_some, Option.map_none, ocase_some, ocase_none, true_and, and_true, eq_self, ↓seqQ, ↓blockQ, ↓retS, resS, lresL, frameOf, sh, shL, shH, List.length_nil, List.length_cons, List.nil_append, List.append_nil, lput, fset, fget_cons, fget_nil, Nat.reduceEqDiff, evalO, ↓reduceIte, Nat.zero_add, Nat.add_zero, reduceCtorEq, ne_eq, not_false_eq_true, not_true_eq_false]
  repeat (apply OpsW.nx; · simp (disch := omega) only [w64, hx, ti3, ti9, next, frameOf, nextQ, valOp, wantS, lput, fset, fget_cons, fget_nil, Nat.reduceEqDiff, evalO, constLV, scalarLV, pureOp, lookBool, asI, lbinT, lbin, lun, loadOp, row, lpart, lcells, putC, sh, shL, shH, snap, hfreeL, hfree, ne_eq, not_true_eq_false, not_false_eq_true, reduceCtorEq, ↓reduceIte, if_true, if_false, Bool.not_true, Bool.not_false, Bool.false_eq_true, Bool.true_eq_false, Option.map_some, Option.map_none, Option.bind_some, List.map_cons, List.map_nil, List.getElem?_cons_zero, List.getElem?_cons_succ, List.length_cons, List.length_nil, List.cons_append, List.nil_append, List.append_nil, forall_const, decide_true, decide_false, eq_self, Int.reduceLT, true_and, and_true, false_and, and_false, true_implies, false_implies, implies_true, Nat.zero_add, Nat.add_zero]; exact rfl)
  try refine OpsW.nil ?_
  try simp only [Option.map_some, Option.map_none, ocase_some, ocase_none, true_and, and_true, eq_self, ↓seqQ, ↓blockQ, ↓retS, resS, lresL, frameOf, sh, shL, shH, List.length_nil, List.length_cons, List.nil_append, List.append_nil, lput, fset, fget_cons, fget_nil, Nat.reduceEqDiff, evalO, ↓reduceIte, Nat.zero_add, Nat.add_zero, reduceCtorEq, ne_eq, not_false_eq_true, not_true_eq_false]
  apply OpsW.arg; · first | rfl | simp (disch := omega) only [w64, hx, hy, ti3, ti9, next, frameOf, nextQ, valOp, wantS, lput, fset, fget_cons, fget_nil, Nat.reduceEqDiff, evalO, constLV, scalarLV, pureOp, lookBool, asI, lbinT, lbin, lun, loadOp, row, lpart, lcells, putC, sh, shL, shH, snap, hfreeL, hfree, ne_eq, not_true_eq_false, not_false_eq_true, reduceCtorEq, ↓reduceIte, if_true, if_false, Bool.not_true, Bool.not_false, Bool.false_eq_true, Bool.true_eq_false, Option.map_some, Option.map_none, Option.bind_some, List.map_cons, List.map_nil, List.getElem?_cons_zero, List.getElem?_cons_succ, List.length_cons, List.length_nil, List.cons_append, List.nil_append, List.append_nil, forall_const, decide_true, decide_false, eq_self, Int.reduceLT, true_and, and_true, false_and, and_false, true_implies, false_implies, implies_true, Nat.zero_add, Nat.add_zero]
  · simp (disch := omega) only [w64, hx, hy, ti3, ti9, next, frameOf, nextQ, valOp, wantS, lput, fset, fget_cons, fget_nil, Nat.reduceEqDiff, evalO, constLV, scalarLV, pureOp, lookBool, asI, lbinT, lbin, lun, loadOp, row, lpart, lcells, putC, sh, shL, shH, snap, hfreeL, hfree, ne_eq, not_true_eq_false, not_false_eq_true, reduceCtorEq, ↓reduceIte, if_true, if_false, Bool.not_true, Bool.not_false, Bool.false_eq_true, Bool.true_eq_false, Option.map_some, Option.map_none, Option.bind_some, List.map_cons, List.map_nil, List.getElem?_cons_zero, List.getElem?_cons_succ, List.length_cons, List.length_nil, List.cons_append, List.nil_append, List.append_nil, forall_const, decide_true, decide_false, eq_self, Int.reduceLT, true_and, and_true, false_and, and_false, true_implies, false_implies, implies_true, Nat.zero_add, Nat.add_zero]; exact rfl
  refine OpsC.of (mod_any a1 1048576 (by omega) (by omega) (by omega) (by omega)) rfl ?_
  rintro _ _ ⟨rfl, rfl⟩
  try simp only [Option.map_some, Option.map_none, ocase_some, ocase_none, true_and, and_true, eq_self, ↓seqQ, ↓blockQ, ↓retS, resS, lresL, frameOf, sh, shL, shH, List.length_nil, List.length_cons, List.nil_append, List.append_nil, lput, fset, fget_cons, fget_nil, Nat.reduceEqDiff, evalO, ↓reduceIte, Nat.zero_add, Nat.add_zero, reduceCtorEq, ne_eq, not_false_eq_true, not_true_eq_false]
  repeat (apply OpsW.nx; · simp (disch := omega) only [w64, hx, hy, ti3, ti9, next, frameOf, nextQ, valOp, wantS, lput, fset, fget_cons, fget_nil, Nat.reduceEqDiff, evalO, constLV, scalarLV, pureOp, lookBool, asI, lbinT, lbin, lun, loadOp, row, lpart, lcells, putC, sh, shL, shH, snap, hfreeL, hfree, ne_eq, not_true_eq_false, not_false_eq_true, reduceCtorEq, ↓reduceIte, if_true, if_false, Bool.not_true, Bool.not_false, Bool.false_eq_true, Bool.true_eq_false, Option.map_some, Option.map_none, Option.bind_some, List.map_cons, List.map_nil, List.getElem?_cons_zero, List.getElem?_cons_succ, List.length_cons, List.length_nil, List.cons_append, List.nil_append, List.append_nil, forall_const, decide_true, decide_false, eq_self, Int.reduceLT, true_and, and_true, false_and, and_false, true_implies, false_implies, implies_true, Nat.zero_add, Nat.add_zero]; exact rfl)
  try refine OpsW.nil ?_
  try simp only [Option.map_some, Option.map_none, ocase_some, ocase_none, true_and, and_true, eq_self, ↓seqQ, ↓blockQ, ↓retS, resS, lresL, frameOf, sh, shL, shH, List.length_nil, List.length_cons, List.nil_append, List.append_nil, lput, fset, fget_cons, fget_nil, Nat.reduceEqDiff, evalO, ↓reduceIte, Nat.zero_add, Nat.add_zero, reduceCtorEq, ne_eq, not_false_eq_true, not_true_eq_false]
  refine Lw.seq (Lw.ops ?_)
  unfold K2_DensityProducts_r4
  repeat (apply OpsW.nx; · simp (disch := omega) only [ti3, next, frameOf, nextQ, valOp, wantS, lput, fset, fget_cons, fget_nil, Nat.reduceEqDiff, evalO, constLV, scalarLV, pureOp, lookBool, asI, lbinT, lbin, lun, loadOp, row, lpart, lcells, putC, sh, shL, shH, snap, hfreeL, hfree, ne_eq, not_true_eq_false, not_false_eq_true, reduceCtorEq, ↓reduceIte, if_true, if_false, Bool.not_true, Bool.not_false, Bool.false_eq_true, Bool.true_eq_false, Option.map_some, Option.map_none, Option.bind_some, List.map_cons, List.map_nil, List.getElem?_cons_zero, List.getElem?_cons_succ, List.length_cons, List.length_nil, List.cons_append, List.nil_append, List.append_nil, forall_const, decide_true, decide_false, eq_self, Int.reduceLT, true_and, and_true, false_and, and_false, true_implies, false_implies, implies_true, Nat.zero_add, Nat.add_zero]; exact rfl)
  try refine OpsW.nil ?_
  try simp only [Option.map_some, Option.map_none, ocase_some, ocase_none, true_and, and_true, eq_self, ↓seqQ, ↓blockQ, ↓retS, resS, lresL, frameOf, sh, shL, shH, List.length_nil, List.length_cons, List.nil_append, List.append_nil, lput, fset, fget_cons, fget_nil, Nat.reduceEqDiff, evalO, ↓reduceIte, Nat.zero_add, Nat.add_zero, reduceCtorEq, ne_eq, not_false_eq_true, not_true_eq_false]
  apply OpsW.arg; · first | rfl | simp (disch := omega) only [ti3, next, frameOf, nextQ, valOp, wantS, lput, fset, fget_cons, fget_nil, Nat.reduceEqDiff, evalO, constLV, scalarLV, pureOp, lookBool, asI, lbinT, lbin, lun, loadOp, row, lpart, lcells, putC, sh, shL, shH, snap, hfreeL, hfree, ne_eq, not_true_eq_false, not_false_eq_true, reduceCtorEq, ↓reduceIte, if_true, if_false, Bool.not_true, Bool.not_false, Bool.false_eq_true, Bool.true_eq_false, Option.map_some, Option.map_none, Option.bind_some, List.map_cons, List.map_nil, List.getElem?_cons_zero, List.getElem?_cons_succ, List.length_cons, List.length_nil, List.cons_append, List.nil_append, List.append_nil, forall_const, decide_true, decide_false, eq_self, Int.reduceLT, true_and, and_true, false_and, and_false, true_implies, false_implies, implies_true, Nat.zero_add, Nat.add_zero]
  · simp (disch := omega) only [ti3, next, frameOf, nextQ, valOp, wantS, lput, fset, fget_cons, fget_nil, Nat.reduceEqDiff, evalO, constLV, scalarLV, pureOp, lookBool, asI, lbinT, lbin, lun, loadOp, row, lpart, lcells, putC, sh, shL, shH, snap, hfreeL, hfree, ne_eq, not_true_eq_false, not_false_eq_true, reduceCtorEq, ↓reduceIte, if_true, if_false, Bool.not_true, Bool.not_false, Bool.false_eq_true, Bool.true_eq_false, Option.map_some, Option.map_none, Option.bind_some, List.map_cons, List.map_nil, List.getElem?_cons_zero, List.getElem?_cons_succ, List.length_cons, List.length_nil, List.cons_append, List.nil_append, List.append_nil, forall_const, decide_true, decide_false, eq_self, Int.reduceLT, true_and, and_true, false_and, and_false, true_implies, false_implies, implies_true, Nat.zero_add, Nat.add_zero]; exact rfl
  refine OpsC.of (log2_any x (by omega) (by omega)) rfl ?_
  rintro _ _ ⟨rfl, rfl⟩
  try simp only [Option.map_some, Option.map_none, ocase_some, ocase_none, true_and, and_true, eq_self, ↓seqQ, ↓blockQ, ↓retS, resS, lresL, frameOf, sh, shL, shH, List.length_nil, List.length_cons, List.nil_append, List.append_nil, lput, fset, fget_cons, fget_nil, Nat.reduceEqDiff, evalO, ↓reduceIte, Nat.zero_add, Nat.add_zero, reduceCtorEq, ne_eq, not_false_eq_true, not_true_eq_false]
  repeat (apply OpsW.nx; · simp (disch := omega) only [ti3, next, frameOf, nextQ, valOp, wantS, lput, fset, fget_cons, fget_nil, Nat.reduceEqDiff, evalO, constLV, scalarLV, pureOp, lookBool, asI, lbinT, lbin, lun, loadOp, row, lpart, lcells, putC, sh, shL, shH, snap, hfreeL, hfree, ne_eq, not_true_eq_false, not_false_eq_true, reduceCtorEq, ↓reduceIte, if_true, if_false, Bool.not_true, Bool.not_false, Bool.false_eq_true, Bool.true_eq_false, Option.map_some, Option.map_none, Option.bind_some, List.map_cons, List.map_nil, List.getElem?_cons_zero, List.getElem?_cons_succ, List.length_cons, List.length_nil, List.cons_append, List.nil_append, List.append_nil, forall_const, decide_true, decide_false, eq_self, Int.reduceLT, true_and, and_true, false_and, and_false, true_implies, false_implies, implies_true, Nat.zero_add, Nat.add_zero]; exact rfl)
  try refine OpsW.nil ?_
  try simp only [Option.map_some, Option.map_none, ocase_some, ocase_none, true_and, and_true, eq_self, ↓seqQ, ↓blockQ, ↓retS, resS, lresL, frameOf, sh, shL, shH, List.length_nil, List.length_cons, List.nil_append, List.append_nil, lput, fset, fget_cons, fget_nil, Nat.reduceEqDiff, evalO, ↓reduceIte, Nat.zero_add, Nat.add_zero, reduceCtorEq, ne_eq, not_false_eq_true, not_true_eq_false]
  refine Lw.seq (Lw.ops ?_)
  unfold K2_DensityProducts_r5
  repeat (apply OpsW.nx; · simp (disch := omega) only [ti3, next, frameOf, nextQ, valOp, wantS, lput, fset, fget_cons, fget_nil, Nat.reduceEqDiff, evalO, constLV, scalarLV, pureOp, lookBool, asI, lbinT, lbin, lun, loadOp, row, lpart, lcells, putC, sh, shL, shH, snap, hfreeL, hfree, ne_eq, not_true_eq_false, not_false_eq_true, reduceCtorEq, ↓reduceIte, if_true, if_false, Bool.not_true, Bool.not_false, Bool.false_eq_true, Bool.true_eq_false, Option.map_some, Option.map_none, Option.bind_some, List.map_cons, List.map_nil, List.getElem?_cons_zero, List.getElem?_cons_succ, List.length_cons, List.length_nil, List.cons_append, List.nil_append, List.append_nil, forall_const, decide_true, decide_false, eq_self, Int.reduceLT, true_and, and_true, false_and, and_false, true_implies, false_implies, implies_true, Nat.zero_add, Nat.add_zero]; exact rfl)
  try refine OpsW.nil ?_
  try simp only [Option.map_some, Option.map_none, ocase_some, ocase_none, true_and, and_true, eq_self, ↓seqQ, ↓blockQ, ↓retS, resS, lresL, frameOf, sh, shL, shH, List.length_nil, List.length_cons, List.nil_append, List.append_nil, lput, fset, fget_cons, fget_nil, Nat.reduceEqDiff, evalO, ↓reduceIte, Nat.zero_add, Nat.add_zero, reduceCtorEq, ne_eq, not_false_eq_true, not_true_eq_false]
  apply OpsW.arg; · first | rfl | simp (disch := omega) only [ti3, next, frameOf, nextQ, valOp, wantS, lput, fset, fget_cons, fget_nil, Nat.reduceEqDiff, evalO, constLV, scalarLV, pureOp, lookBool, asI, lbinT, lbin, lun, loadOp, row, lpart, lcells, putC, sh, shL, shH, snap, hfreeL, hfree, ne_eq, not_true_eq_false, not_false_eq_true, reduceCtorEq, ↓reduceIte, if_true, if_false, Bool.not_true, Bool.not_false, Bool.false_eq_true, Bool.true_eq_false, Option.map_some, Option.map_none, Option.bind_some, List.map_cons, List.map_nil, List.getElem?_cons_zero, List.getElem?_cons_succ, List.length_cons, List.length_nil, List.cons_append, List.nil_append, List.append_nil, forall_const, decide_true, decide_false, eq_self, Int.reduceLT, true_and, and_true, false_and, and_false, true_implies, false_implies, implies_true, Nat.zero_add, Nat.add_zero]
  · simp (disch := omega) only [ti3, next, frameOf, nextQ, valOp, wantS, lput, fset, fget_cons, fget_nil, Nat.reduceEqDiff, evalO, constLV, scalarLV, pureOp, lookBool, asI, lbinT, lbin, lun, loadOp, row, lpart, lcells, putC, sh, shL, shH, snap, hfreeL, hfree, ne_eq, not_true_eq_false, not_false_eq_true, reduceCtorEq, ↓reduceIte, if_true, if_false, Bool.not_true, Bool.not_false, Bool.false_eq_true, Bool.true_eq_false, Option.map_some, Option.map_none, Option.bind_some, List.map_cons, List.map_nil, List.getElem?_cons_zero, List.getElem?_cons_succ, List.length_cons, List.length_nil, List.cons_append, List.nil_append, List.append_nil, forall_const, decide_true, decide_false, eq_self, Int.reduceLT, true_and, and_true, false_and, and_false, true_implies, false_implies, implies_true, Nat.zero_add, Nat.add_zero]; exact rfl
  refine OpsC.of (log2_any y (by omega) (by omega)) rfl ?_
  rintro _ _ ⟨rfl, rfl⟩
  try simp only [Option.map_some, Option.map_none, ocase_some, ocase_none, true_and, and_true, eq_self, ↓seqQ, ↓blockQ, ↓retS, resS, lresL, frameOf, sh, shL, shH, List.length_nil, List.length_cons, List.nil_append, List.append_nil, lput, fset, fget_cons, fget_nil, Nat.reduceEqDiff, evalO, ↓reduceIte, Nat.zero_add, Nat.add_zero, reduceCtorEq, ne_eq, not_false_eq_true, not_true_eq_false]
  repeat (apply OpsW.nx; · simp (disch := omega) only [ti3, next, frameOf, nextQ, valOp, wantS, lput, fset, fget_cons, fget_nil, Nat.reduceEqDiff, evalO, constLV, scalarLV, pureOp, lookBool, asI, lbinT, lbin, lun, loadOp, row, lpart, lcells, putC, sh, shL, shH, snap, hfreeL, hfree, ne_eq, not_true_eq_false, not_false_eq_true, reduceCtorEq, ↓reduceIte, if_true, if_false, Bool.not_true, Bool.not_false, Bool.false_eq_true, Bool.true_eq_false, Option.map_some, Option.map_none, Option.bind_some, List.map_cons, List.map_nil, List.getElem?_cons_zero, List.getElem?_cons_succ, List.length_cons, List.length_nil, List.cons_append, List.nil_append, List.append_nil, forall_const, decide_true, decide_false, eq_self, Int.reduceLT, true_and, and_true, false_and, and_false, true_implies, false_implies, implies_true, Nat.zero_add, Nat.add_zero]; exact rfl)
  try refine OpsW.nil ?_
  try simp only [Option.map_some, Option.map_none, ocase_some, ocase_none, true_and, and_true, eq_self, ↓seqQ, ↓blockQ, ↓retS, resS, lresL, frameOf, sh, shL, shH, List.length_nil, List.length_cons, List.nil_append, List.append_nil, lput, fset, fget_cons, fget_nil, Nat.reduceEqDiff, evalO, ↓reduceIte, Nat.zero_add, Nat.add_zero, reduceCtorEq, ne_eq, not_false_eq_true, not_true_eq_false]
  refine Lw.seq (Lw.ops ?_)
  unfold K2_DensityProducts_r6
  repeat (apply OpsW.nx; · simp (disch := omega) only [hw, ti3, next, frameOf, nextQ, valOp, wantS, lput, fset, fget_cons, fget_nil, Nat.reduceEqDiff, evalO, constLV, scalarLV, pureOp, lookBool, asI, lbinT, lbin, lun, loadOp, row, lpart, lcells, putC, sh, shL, shH, snap, hfreeL, hfree, ne_eq, not_true_eq_false, not_false_eq_true, reduceCtorEq, ↓reduceIte, if_true, if_false, Bool.not_true, Bool.not_false, Bool.false_eq_true, Bool.true_eq_false, Option.map_some, Option.map_none, Option.bind_some, List.map_cons, List.map_nil, List.getElem?_cons_zero, List.getElem?_cons_succ, List.length_cons, List.length_nil, List.cons_append, List.nil_append, List.append_nil, forall_const, decide_true, decide_false, eq_self, Int.reduceLT, true_and, and_true, false_and, and_false, true_implies, false_implies, implies_true, Nat.zero_add, Nat.add_zero]; exact rfl)
  try refine OpsW.nil ?_
  try simp only [Option.map_some, Option.map_none, ocase_some, ocase_none, true_and, and_true, eq_self, ↓seqQ, ↓blockQ, ↓retS, resS, lresL, frameOf, sh, shL, shH, List.length_nil, List.length_cons, List.nil_append, List.append_nil, lput, fset, fget_cons, fget_nil, Nat.reduceEqDiff, evalO, ↓reduceIte, Nat.zero_add, Nat.add_zero, reduceCtorEq, ne_eq, not_false_eq_true, not_true_eq_false]
  apply OpsW.arg; · first | rfl | simp (disch := omega) only [ti3, next, frameOf, nextQ, valOp, wantS, lput, fset, fget_cons, fget_nil, Nat.reduceEqDiff, evalO, constLV, scalarLV, pureOp, lookBool, asI, lbinT, lbin, lun, loadOp, row, lpart, lcells, putC, sh, shL, shH, snap, hfreeL, hfree, ne_eq, not_true_eq_false, not_false_eq_true, reduceCtorEq, ↓reduceIte, if_true, if_false, Bool.not_true, Bool.not_false, Bool.false_eq_true, Bool.true_eq_false, Option.map_some, Option.map_none, Option.bind_some, List.map_cons, List.map_nil, List.getElem?_cons_zero, List.getElem?_cons_succ, List.length_cons, List.length_nil, List.cons_append, List.nil_append, List.append_nil, forall_const, decide_true, decide_false, eq_self, Int.reduceLT, true_and, and_true, false_and, and_false, true_implies, false_implies, implies_true, Nat.zero_add, Nat.add_zero]
  · simp (disch := omega) only [ti3, next, frameOf, nextQ, valOp, wantS, lput, fset, fget_cons, fget_nil, Nat.reduceEqDiff, evalO, constLV, scalarLV, pureOp, lookBool, asI, lbinT, lbin, lun, loadOp, row, lpart, lcells, putC, sh, shL, shH, snap, hfreeL, hfree, ne_eq, not_true_eq_false, not_false_eq_true, reduceCtorEq, ↓reduceIte, if_true, if_false, Bool.not_true, Bool.not_false, Bool.false_eq_true, Bool.true_eq_false, Option.map_some, Option.map_none, Option.bind_some, List.map_cons, List.map_nil, List.getElem?_cons_zero, List.getElem?_cons_succ, List.length_cons, List.length_nil, List.cons_append, List.nil_append, List.append_nil, forall_const, decide_true, decide_false, eq_self, Int.reduceLT, true_and, and_true, false_and, and_false, true_implies, false_implies, implies_true, Nat.zero_add, Nat.add_zero]; exact rfl
  refine OpsC.of (log2_any ((x : Int) * y) (by rw [xy]; omega) (by rw [xy]; omega)) rfl ?_
  rintro _ _ ⟨rfl, rfl⟩
  try simp only [Option.map_some, Option.map_none, ocase_some, ocase_none, true_and, and_true, eq_self, ↓seqQ, ↓blockQ, ↓retS, resS, lresL, frameOf, sh, shL, shH, List.length_nil, List.length_cons, List.nil_append, List.append_nil, lput, fset, fget_cons, fget_nil, Nat.reduceEqDiff, evalO, ↓reduceIte, Nat.zero_add, Nat.add_zero, reduceCtorEq, ne_eq, not_false_eq_true, not_true_eq_false]
  repeat (apply OpsW.nx; · simp (disch := omega) only [ti3, next, frameOf, nextQ, valOp, wantS, lput, fset, fget_cons, fget_nil, Nat.reduceEqDiff, evalO, constLV, scalarLV, pureOp, lookBool, asI, lbinT, lbin, lun, loadOp, row, lpart, lcells, putC, sh, shL, shH, snap, hfreeL, hfree, ne_eq, not_true_eq_false, not_false_eq_true, reduceCtorEq, ↓reduceIte, if_true, if_false, Bool.not_true, Bool.not_false, Bool.false_eq_true, Bool.true_eq_false, Option.map_some, Option.map_none, Option.bind_some, List.map_cons, List.map_nil, List.getElem?_cons_zero, List.getElem?_cons_succ, List.length_cons, List.length_nil, List.cons_append, List.nil_append, List.append_nil, forall_const, decide_true, decide_false, eq_self, Int.reduceLT, true_and, and_true, false_and, and_false, true_implies, false_implies, implies_true, Nat.zero_add, Nat.add_zero]; exact rfl)
  try refine OpsW.nil ?_
  try simp only [Option.map_some, Option.map_none, ocase_some, ocase_none, true_and, and_true, eq_self, ↓seqQ, ↓blockQ, ↓retS, resS, lresL, frameOf, sh, shL, shH, List.length_nil, List.length_cons, List.nil_append, List.append_nil, lput, fset, fget_cons, fget_nil, Nat.reduceEqDiff, evalO, ↓reduceIte, Nat.zero_add, Nat.add_zero, reduceCtorEq, ne_eq, not_false_eq_true, not_true_eq_false]
  refine Lw.seq (Lw.ops ?_)
  unfold K2_DensityProducts_r7
  repeat (apply OpsW.nx; · simp (disch := omega) only [w64, ti3, next, frameOf, nextQ, valOp, wantS, lput, fset, fget_cons, fget_nil, Nat.reduceEqDiff, evalO, constLV, scalarLV, pureOp, lookBool, asI, lbinT, lbin, lun, loadOp, row, lpart, lcells, putC, sh, shL, shH, snap, hfreeL, hfree, ne_eq, not_true_eq_false, not_false_eq_true, reduceCtorEq, ↓reduceIte, if_true, if_false, Bool.not_true, Bool.not_false, Bool.false_eq_true, Bool.true_eq_false, Option.map_some, Option.map_none, Option.bind_some, List.map_cons, List.map_nil, List.getElem?_cons_zero, List.getElem?_cons_succ, List.length_cons, List.length_nil, List.cons_append, List.nil_append, List.append_nil, forall_const, decide_true, decide_false, eq_self, Int.reduceLT, true_and, and_true, false_and, and_false, true_implies, false_implies, implies_true, Nat.zero_add, Nat.add_zero]; exact rfl)
  try refine OpsW.nil ?_
  try simp only [Option.map_some, Option.map_none, ocase_some, ocase_none, true_and, and_true, eq_self, ↓seqQ, ↓blockQ, ↓retS, resS, lresL, frameOf, sh, shL, shH, List.length_nil, List.length_cons, List.nil_append, List.append_nil, lput, fset, fget_cons, fget_nil, Nat.reduceEqDiff, evalO, ↓reduceIte, Nat.zero_add, Nat.add_zero, reduceCtorEq, ne_eq, not_false_eq_true, not_true_eq_false]
  apply OpsW.arg; · first | rfl | simp (disch := omega) only [ti3, next, frameOf, nextQ, valOp, wantS, lput, fset, fget_cons, fget_nil, Nat.reduceEqDiff, evalO, constLV, scalarLV, pureOp, lookBool, asI, lbinT, lbin, lun, loadOp, row, lpart, lcells, putC, sh, shL, shH, snap, hfreeL, hfree, ne_eq, not_true_eq_false, not_false_eq_true, reduceCtorEq, ↓reduceIte, if_true, if_false, Bool.not_true, Bool.not_false, Bool.false_eq_true, Bool.true_eq_false, Option.map_some, Option.map_none, Option.bind_some, List.map_cons, List.map_nil, List.getElem?_cons_zero, List.getElem?_cons_succ, List.length_cons, List.length_nil, List.cons_append, List.nil_append, List.append_nil, forall_const, decide_true, decide_false, eq_self, Int.reduceLT, true_and, and_true, false_and, and_false, true_implies, false_implies, implies_true, Nat.zero_add, Nat.add_zero]
  · simp (disch := omega) only [ti3, next, frameOf, nextQ, valOp, wantS, lput, fset, fget_cons, fget_nil, Nat.reduceEqDiff, evalO, constLV, scalarLV, pureOp, lookBool, asI, lbinT, lbin, lun, loadOp, row, lpart, lcells, putC, sh, shL, shH, snap, hfreeL, hfree, ne_eq, not_true_eq_false, not_false_eq_true, reduceCtorEq, ↓reduceIte, if_true, if_false, Bool.not_true, Bool.not_false, Bool.false_eq_true, Bool.true_eq_false, Option.map_some, Option.map_none, Option.bind_some, List.map_cons, List.map_nil, List.getElem?_cons_zero, List.getElem?_cons_succ, List.length_cons, List.length_nil, List.cons_append, List.nil_append, List.append_nil, forall_const, decide_true, decide_false, eq_self, Int.reduceLT, true_and, and_true, false_and, and_false, true_implies, false_implies, implies_true, Nat.zero_add, Nat.add_zero]; exact rfl
  refine OpsC.of (log2_any (2 * (x : Int)) (by omega) (by omega)) rfl ?_
  rintro _ _ ⟨rfl, rfl⟩
  try simp only [Option.map_some, Option.map_none, ocase_some, ocase_none, true_and, and_true, eq_self, ↓seqQ, ↓blockQ, ↓retS, resS, lresL, frameOf, sh, shL, shH, List.length_nil, List.length_cons, List.nil_append, List.append_nil, lput, fset, fget_cons, fget_nil, Nat.reduceEqDiff, evalO, ↓reduceIte, Nat.zero_add, Nat.add_zero, reduceCtorEq, ne_eq, not_false_eq_true, not_true_eq_false]
  repeat (apply OpsW.nx; · simp (disch := omega) only [ti3, next, frameOf, nextQ, valOp, wantS, lput, fset, fget_cons, fget_nil, Nat.reduceEqDiff, evalO, constLV, scalarLV, pureOp, lookBool, asI, lbinT, lbin, lun, loadOp, row, lpart, lcells, putC, sh, shL, shH, snap, hfreeL, hfree, ne_eq, not_true_eq_false, not_false_eq_true, reduceCtorEq, ↓reduceIte, if_true, if_false, Bool.not_true, Bool.not_false, Bool.false_eq_true, Bool.true_eq_false, Option.map_some, Option.map_none, Option.bind_some, List.map_cons, List.map_nil, List.getElem?_cons_zero, List.getElem?_cons_succ, List.length_cons, List.length_nil, List.cons_append, List.nil_append, List.append_nil, forall_const, decide_true, decide_false, eq_self, Int.reduceLT, true_and, and_true, false_and, and_false, true_implies, false_implies, implies_true, Nat.zero_add, Nat.add_zero]; exact rfl)
  try refine OpsW.nil ?_
  try simp only [Option.map_some, Option.map_none, ocase_some, ocase_none, true_and, and_true, eq_self, ↓seqQ, ↓blockQ, ↓retS, resS, lresL, frameOf, sh, shL, shH, List.length_nil, List.length_cons, List.nil_append, List.append_nil, lput, fset, fget_cons, fget_nil, Nat.reduceEqDiff, evalO, ↓reduceIte, Nat.zero_add, Nat.add_zero, reduceCtorEq, ne_eq, not_false_eq_true, not_true_eq_false]
  refine Lw.seq (Lw.seq (Lw.ops ?_))
  unfold K2_DensityProducts_r8
  repeat (apply OpsW.nx; · simp (disch := omega) only [bne_self_eq_false, ti24, next, frameOf, nextQ, valOp, wantS, lput, fset, fget_cons, fget_nil, Nat.reduceEqDiff, evalO, constLV, scalarLV, pureOp, lookBool, asI, lbinT, lbin, lun, loadOp, row, lpart, lcells, putC, sh, shL, shH, snap, hfreeL, hfree, ne_eq, not_true_eq_false, not_false_eq_true, reduceCtorEq, ↓reduceIte, if_true, if_false, Bool.not_true, Bool.not_false, Bool.false_eq_true, Bool.true_eq_false, Option.map_some, Option.map_none, Option.bind_some, List.map_cons, List.map_nil, List.getElem?_cons_zero, List.getElem?_cons_succ, List.length_cons, List.length_nil, List.cons_append, List.nil_append, List.append_nil, forall_const, decide_true, decide_false, eq_self, Int.reduceLT, true_and, and_true, false_and, and_false, true_implies, false_implies, implies_true, Nat.zero_add, Nat.add_zero]; exact rfl)
  try refine OpsW.nil ?_
  try simp only [Option.map_some, Option.map_none, ocase_some, ocase_none, true_and, and_true, eq_self, ↓seqQ, ↓blockQ, ↓retS, resS, lresL, frameOf, sh, shL, shH, List.length_nil, List.length_cons, List.nil_append, List.append_nil, lput, fset, fget_cons, fget_nil, Nat.reduceEqDiff, evalO, ↓reduceIte, Nat.zero_add, Nat.add_zero, reduceCtorEq, ne_eq, not_false_eq_true, not_true_eq_false]
  refine Lw.cond rfl (fun h => Bool.noConfusion h) (fun _ => Lw.skip ?_)
  try simp only [Option.map_some, Option.map_none, ocase_some, ocase_none, true_and, and_true, eq_self, ↓seqQ, ↓blockQ, ↓retS, resS, lresL, frameOf, sh, shL, shH, List.length_nil, List.length_cons, List.nil_append, List.append_nil, lput, fset, fget_cons, fget_nil, Nat.reduceEqDiff, evalO, ↓reduceIte, Nat.zero_add, Nat.add_zero, reduceCtorEq, ne_eq, not_false_eq_true, not_true_eq_false]
  refine Lw.seq (Lw.ops ?_)
  unfold K2_DensityProducts_r10
  repeat (apply OpsW.nx; · simp (disch := omega) only [g3, w64, k1, k2, beq_self_eq_true, ti3, next, frameOf, nextQ, valOp, wantS, lput, fset, fget_cons, fget_nil, Nat.reduceEqDiff, evalO, constLV, scalarLV, pureOp, lookBool, asI, lbinT, lbin, lun, loadOp, row, lpart, lcells, putC, sh, shL, shH, snap, hfreeL, hfree, ne_eq, not_true_eq_false, not_false_eq_true, reduceCtorEq, ↓reduceIte, if_true, if_false, Bool.not_true, Bool.not_false, Bool.false_eq_true, Bool.true_eq_false, Option.map_some, Option.map_none, Option.bind_some, List.map_cons, List.map_nil, List.getElem?_cons_zero, List.getElem?_cons_succ, List.length_cons, List.length_nil, List.cons_append, List.nil_append, List.append_nil, forall_const, decide_true, decide_false, eq_self, Int.reduceLT, true_and, and_true, false_and, and_false, true_implies, false_implies, implies_true, Nat.zero_add, Nat.add_zero]; exact rfl)
  try refine OpsW.nil ?_
  try simp only [Option.map_some, Option.map_none, ocase_some, ocase_none, true_and, and_true, eq_self, ↓seqQ, ↓blockQ, ↓retS, resS, lresL, frameOf, sh, shL, shH, List.length_nil, List.length_cons, List.nil_append, List.append_nil, lput, fset, fget_cons, fget_nil, Nat.reduceEqDiff, evalO, ↓reduceIte, Nat.zero_add, Nat.add_zero, reduceCtorEq, ne_eq, not_false_eq_true, not_true_eq_false]
  refine Lw.ret ?_
  simp only [Option.map_some, Option.map_none, ocase_some, ocase_none, true_and, and_true, eq_self, ↓seqQ, ↓blockQ, ↓retS, resS, lresL, frameOf, sh, shL, shH, List.length_nil, List.length_cons, List.nil_append, List.append_nil, lput, fset, fget_cons, fget_nil, Nat.reduceEqDiff, evalO, ↓reduceIte, Nat.zero_add, Nat.add_zero, reduceCtorEq, ne_eq, not_false_eq_true, not_true_eq_false]
end Go.Proofs.Ytlcpbpkffdnmnaa
