/- Reed-Solomon: the product and the power. -/
import Derived.Test.YthkilkjngincpaaRsM
import Derived.Test.YthkilkjngincpaaGo
namespace Go.Proofs.Ythkilkjngincpaa
open Go Go.Lite
set_option linter.unusedVariables false
set_option linter.unusedSimpArgs false
set_option maxRecDepth 100000
set_option maxHeartbeats 4000000
-- @simp rdi rdy

/-- A byte as a number. -/
def by8 (x : BitVec 8) : Int := ((x.toNat : Nat) : Int)
theorem by8_bd (x : BitVec 8) : 0 ≤ by8 x ∧ by8 x ≤ 255 := by have := x.isLt; unfold by8; omega
theorem by8_xor (x y : BitVec 8) : bxor (by8 x) (by8 y) = by8 (x ^^^ y) := by unfold bxor by8; rw [BitVec.toNat_xor]; rfl
theorem by8_ofInt {n : Int} (h : 0 ≤ n ∧ n ≤ 255) : by8 (BitVec.ofInt 8 n) = n := by
  unfold by8
  rw [BitVec.toNat_ofInt]
  omega
theorem by8_inj {x y : BitVec 8} (h : by8 x = by8 y) : x = y := BitVec.eq_of_toNat_eq (by unfold by8 at h; omega)
theorem by8_zero {x : BitVec 8} : by8 x = 0 ↔ x = 0#8 := ⟨fun h => by8_inj (by rw [h]; rfl), fun h => by rw [h]; rfl⟩
theorem low_bit : ∀ b : BitVec 8, band (by8 b) 1 = (if b.getLsbD 0 then 1 else 0) := by decide
theorem and_255 : ∀ a : BitVec 8, band (by8 a) 255 = by8 a := by decide
theorem and_0 : ∀ a : BitVec 8, band (by8 a) 0 = 0 := by decide
theorem half : ∀ b : BitVec 8, by8 b / (2 : Int) ^ Int.toNat 1 = by8 (b >>> 1) := by decide
theorem top_bit : ∀ a : BitVec 8, by8 a / 2 ^ Int.toNat 7 = (if a.msb then 1 else 0) := by decide
theorem xt_by8 : ∀ a : BitVec 8, bxor (by8 a * 2 ^ Int.toNat 1 % 256) (band 29 (-(by8 a / 2 ^ Int.toNat 7) % 256)) = by8 (xt a) := by decide
theorem shr_zero : ∀ (n : Nat) (b : BitVec 8), by8 b < 2 ^ (n + 1) → by8 (b >>> 1) < 2 ^ n := fun n b h => by
  unfold by8 at *
  rw [BitVec.toNat_ushiftRight, show b.toNat >>> 1 = b.toNat / 2 from Nat.shiftRight_succ _ _]
  have e : (2 : Int) ^ (n + 1) = 2 ^ n * 2 := Int.pow_succ _ _
  omega
theorem mulB_zero : ∀ (n : Nat) (a : BitVec 8), mulB n a 0#8 = 0#8
  | 0, _ => rfl
  | n + 1, a => by simp only [mulB]; rw [show (0#8 >>> 1 : BitVec 8) = 0#8 by decide, mulB_zero n]; simp

theorem mul_c (a b : BitVec 8) : TC R Try.prog reedsolomon_Mul_f [.int .u8 (by8 a), .int .u8 (by8 b)] [] (fun v X => v = .int .u8 (by8 (mulF a b)) ∧ X = []) := by
  refine tc0 env reedsolomon_Mul_s (by rfl) ?_
  dsimp only [reedsolomon_Mul_c]
  repeat' (first
    | refine GZp_i_y ?_ ?_ ?_ ?_ ?_ ?_ ?_ ?_
    | with_reducible first | exact BzZq.mk | refine Tw.ret ?_ | refine ImZq.i fun h => ?_ | refine IkZq.i fun hk => ?_)
  refine Tw.loopK [] (fun q : Nat × BitVec 8 × BitVec 8 × BitVec 8 => by8 q.2.2.2 < 2 ^ q.1 ∧ q.2.1 ^^^ mulB q.1 q.2.2.1 q.2.2.2 = mulF a b) (fun q => q.1) (fun q => [(5, .int .u8 (by8 q.2.1)), (0, .int .u8 (by8 q.2.2.1)), (1, .int .u8 (by8 q.2.2.2))]) (fun _ => [])
    ⟨(8, 0#8, a, b), ⟨by have := (by8_bd b).2; show by8 b < 256; omega, BitVec.zero_xor⟩, TWk.fcanon env [] (by rfl) ?_⟩ (fun q hq => ?_)
  · repeat' (first
      | with_reducible first | exact Conj.nil | refine Conj.cons rfl ?_ | refine Conj.same ?_ | refine Conj.ask ?_ ?_
      | ((with_reducible refine Due.mk ?_); (first | with_reducible rfl | omega | assumption | decide | ((try simp only [goS] at *) <;> (try intro h) <;> (try intro h') <;> (try simp only [goS] at *) <;> (try simp only [rdi, rdy, Int.toNat_natCast, Nat.add_zero] at *) <;> (try simp only [rng]) <;> (first | assumption | omega)) | (exact due_app0 (by omega)) | (exact due_app (by omega)) | (intros; simp; done) | (intros; simp; omega)))
      | with_reducible refine Due.mk ?_
      | omega)
  obtain ⟨n, acc, x, y⟩ := q
  dsimp only at hq ⊢
  obtain ⟨h1, h2⟩ := hq
  have bx := by8_bd x
  have bY := by8_bd y
  have ba := by8_bd acc
  by_cases hy : y = 0#8
  · subst hy
    have e0 : by8 0#8 = 0 := rfl
    rw [mulB_zero, BitVec.xor_zero] at h2
    repeat' (first
      | refine GZy_i_y e0 ?_ ?_ ?_ ?_ ?_ ?_ ?_ ?_
      | with_reducible first | exact BzZq.mk | refine Tw.ret ?_ | refine ImZq.i fun h => ?_ | refine IkZq.i fun hk => ?_)
    exact ⟨rfl, by rw [h2], rfl⟩
  · have y0 : by8 y ≠ 0 := fun h => hy (by8_zero.1 h)
    cases n with
    | zero =>
      have : by8 y < 1 := h1
      omega
    | succ n =>
      have b1 := low_bit y
      have t1 := top_bit x
      have p1 : band (by8 x) (-(band (by8 y) 1) % 256) = by8 (if y.getLsbD 0 then x else 0#8) := by
        rw [b1]
        cases y.getLsbD 0
        · exact and_0 x
        · exact and_255 x
      have p2 := by8_bd (if y.getLsbD 0 then x else 0#8)
      have p3 : bxor (by8 acc) (by8 (if y.getLsbD 0 then x else 0#8)) = by8 (acc ^^^ if y.getLsbD 0 then x else 0#8) := by8_xor _ _
      have p4 := xt_by8 x
      have p5 := half y
      have p6 : band (by8 y) 1 = 0 ∨ band (by8 y) 1 = 1 := by rw [b1]; cases y.getLsbD 0 <;> simp
      have p7 : by8 x / 2 ^ Int.toNat 7 = 0 ∨ by8 x / 2 ^ Int.toNat 7 = 1 := by rw [t1]; cases x.msb <;> simp
      have p8 : 0 ≤ band 29 (-(by8 x / 2 ^ Int.toNat 7) % 256) ∧ band 29 (-(by8 x / 2 ^ Int.toNat 7) % 256) ≤ 255 := by
        rcases p7 with e | e <;> rw [e] <;> decide
      repeat' (first
        | refine GZy_i_y p1 ?_ ?_ ?_ ?_ ?_ ?_ ?_ ?_
        | with_reducible first | exact BzZq.mk | refine Tw.ret ?_ | refine ImZq.i fun h => ?_ | refine IkZq.i fun hk => ?_)
      have e1 : by8 (acc ^^^ if y.getLsbD 0 then x else 0#8) = bxor (by8 acc) (band (by8 x) (-(band (by8 y) 1) % 256)) := by rw [p1, p3]
      refine ⟨(n, acc ^^^ (if y.getLsbD 0 then x else 0#8), xt x, y >>> 1), ⟨shr_zero n y h1, ?_⟩, by dsimp only; omega, TWk.fcanon env [] (by rfl) ?_⟩
      · dsimp only
        rw [← h2]
        simp only [mulB]
        rw [BitVec.xor_assoc]
      · repeat' (first
          | exact e1
          | exact p4.symm
          | exact p5.symm
          | refine GZ_i_y ?_ ?_ ?_ ?_ ?_ ?_ ?_ ?_
          | with_reducible first | exact BzZq.mk | refine Tw.ret ?_ | refine ImZq.i fun h => ?_ | refine IkZq.i fun hk => ?_)

def pwF (acc x : BitVec 8) (n : Nat) : BitVec 8 := if h : n = 0 then acc else pwF (if n % 2 = 1 then mulF acc x else acc) (mulF x x) (n / 2)
termination_by n
theorem power_c (x : BitVec 8) (n : Nat) (hn : Due (n ≤ 1000000)) : TC R Try.prog reedsolomon_power_f [.int .u8 (by8 x), .int .i64 n] [] (fun v X => v = .int .u8 (by8 (pwF 1#8 x n)) ∧ X = []) := by
  dsimp only [Due] at hn
  refine tc0 env reedsolomon_power_s (by rfl) ?_
  dsimp only [reedsolomon_power_c]
  repeat' (first
    | refine GZp_i_y ?_ ?_ ?_ ?_ ?_ ?_ ?_ ?_
    | with_reducible first | exact BzZq.mk | refine Tw.ret ?_ | refine ImZq.i fun h => ?_ | refine IkZq.i fun hk => ?_)
  refine Tw.loopK [] (fun q : BitVec 8 × BitVec 8 × Nat => q.2.2 ≤ 1000000 ∧ pwF q.1 q.2.1 q.2.2 = pwF 1#8 x n) (fun q => q.2.2) (fun q => [(5, .int .u8 (by8 q.1)), (0, .int .u8 (by8 q.2.1)), (1, .int .i64 q.2.2)]) (fun _ => [])
    ⟨(1#8, x, n), ⟨hn, rfl⟩, TWk.fcanon env [] (by rfl) ?_⟩ (fun q hq => ?_)
  · repeat' (first
      | with_reducible first | exact Conj.nil | refine Conj.cons rfl ?_ | refine Conj.same ?_ | refine Conj.ask ?_ ?_
      | ((with_reducible refine Due.mk ?_); (first | with_reducible rfl | omega | assumption | decide | ((try simp only [goS] at *) <;> (try intro h) <;> (try intro h') <;> (try simp only [goS] at *) <;> (try simp only [rdi, rdy, Int.toNat_natCast, Nat.add_zero] at *) <;> (try simp only [rng]) <;> (first | assumption | omega)) | (exact due_app0 (by omega)) | (exact due_app (by omega)) | (intros; simp; done) | (intros; simp; omega)))
      | with_reducible refine Due.mk ?_
      | omega)
  obtain ⟨acc, y, k⟩ := q
  dsimp only at hq ⊢
  obtain ⟨h1, h2⟩ := hq
  have by1 := by8_bd y
  have ba := by8_bd acc
  have b1 : band (k : Int) 1 = ((k % 2 : Nat) : Int) := by unfold band; rw [Int.toNat_natCast]; exact congrArg Nat.cast (Nat.and_one_is_mod k)
  have b2 : (k : Int) / 2 ^ Int.toNat 1 = ((k / 2 : Nat) : Int) := by simp
  rw [pwF] at h2
  have m1 := mul_c acc y
  have m2 := mul_c y y
  by_cases hk : k = 0
  · rw [dif_pos hk] at h2
    repeat' (first
      | refine GZp_i_y ?_ ?_ ?_ ?_ ?_ ?_ ?_ ?_
      | with_reducible first | exact BzZq.mk | refine Tw.ret ?_ | refine ImZq.i fun h => ?_ | refine IkZq.i fun hk => ?_)
    exact ⟨rfl, by rw [h2], rfl⟩
  · rw [dif_neg hk] at h2
    by_cases ho : k % 2 = 1
    · rw [if_pos ho] at h2
      repeat' (first
        | ((with_reducible refine TOps.any ?_); refine TOps.callV env (by rfl) (by rfl) (by rfl) (m1) ?_)
        | ((with_reducible refine TOps.any ?_); refine TOps.callV env (by rfl) (by rfl) (by rfl) (m2) ?_)
        | refine GZy_i_y b1 ?_ ?_ ?_ ?_ ?_ ?_ ?_ ?_
        | with_reducible first | exact BzZq.mk | refine Tw.ret ?_ | refine ImZq.i fun h => ?_ | refine IkZq.i fun hk => ?_)
      refine ⟨(mulF acc y, mulF y y, k / 2), ⟨by dsimp only; omega, h2⟩, by dsimp only; omega, TWk.fcanon env [] (by rfl) ?_⟩
      repeat' (first
        | exact b2.symm
        | with_reducible first | exact Conj.nil | refine Conj.cons rfl ?_ | refine Conj.same ?_ | refine Conj.ask ?_ ?_
        | ((with_reducible refine Due.mk ?_); (first | with_reducible rfl | omega | assumption | decide | ((try simp only [goS] at *) <;> (try intro h) <;> (try intro h') <;> (try simp only [goS] at *) <;> (try simp only [rdi, rdy, Int.toNat_natCast, Nat.add_zero] at *) <;> (try simp only [rng]) <;> (first | assumption | omega)) | (exact due_app0 (by omega)) | (exact due_app (by omega)) | (intros; simp; done) | (intros; simp; omega)))
        | with_reducible refine Due.mk ?_
        | omega)
    · rw [if_neg ho] at h2
      repeat' (first
        | ((with_reducible refine TOps.any ?_); refine TOps.callV env (by rfl) (by rfl) (by rfl) (m2) ?_)
        | refine GZy_i_y b1 ?_ ?_ ?_ ?_ ?_ ?_ ?_ ?_
        | with_reducible first | exact BzZq.mk | refine Tw.ret ?_ | refine ImZq.i fun h => ?_ | refine IkZq.i fun hk => ?_)
      refine ⟨(acc, mulF y y, k / 2), ⟨by dsimp only; omega, h2⟩, by dsimp only; omega, TWk.fcanon env [] (by rfl) ?_⟩
      repeat' (first
        | exact b2.symm
        | with_reducible first | exact Conj.nil | refine Conj.cons rfl ?_ | refine Conj.same ?_ | refine Conj.ask ?_ ?_
        | ((with_reducible refine Due.mk ?_); (first | with_reducible rfl | omega | assumption | decide | ((try simp only [goS] at *) <;> (try intro h) <;> (try intro h') <;> (try simp only [goS] at *) <;> (try simp only [rdi, rdy, Int.toNat_natCast, Nat.add_zero] at *) <;> (try simp only [rng]) <;> (first | assumption | omega)) | (exact due_app0 (by omega)) | (exact due_app (by omega)) | (intros; simp; done) | (intros; simp; omega)))
        | with_reducible refine Due.mk ?_
        | omega)
/-- The roots. -/
def rt (i : Nat) : BitVec 8 := pwF 1#8 2#8 i
theorem root_c (i : Nat) (hn : Due (i ≤ 1000000)) : TC R Try.prog reedsolomon_power_f [.int .u8 2, .int .i64 i] [] (fun v X => v = .int .u8 (by8 (rt i)) ∧ X = []) := power_c 2#8 i hn
end Go.Proofs.Ythkilkjngincpaa
