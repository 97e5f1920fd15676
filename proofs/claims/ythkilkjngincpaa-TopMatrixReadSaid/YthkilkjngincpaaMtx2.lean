/- Merged: Rs1 GridM Rs2 Rs3 Rs4 Mtx2. -/
import Derived.Test.YthkilkjngincpaaRsM
import Derived.Test.YthkilkjngincpaaGo
import Derived.Test.YthkilkjngincpaaLin2
namespace Go.Proofs.Ythkilkjngincpaa
open Go Go.Lite
set_option linter.unusedVariables false
set_option linter.unusedSimpArgs false
set_option maxRecDepth 100000
set_option maxHeartbeats 4000000
-- @simp rdi rdy

/-- A byte as a number. -/
def by8 (x : BitVec 8) : Int := ((x.toNat : Nat) : Int)
theorem by8_bd (x : BitVec 8) : 0 ≤ by8 x ∧ by8 x ≤ 255 := by have := x.isLt; unfold by8; omega
theorem by8_xor (x y : BitVec 8) : bxor (by8 x) (by8 y) = by8 (x ^^^ y) := by unfold bxor by8; rw [BitVec.toNat_xor]; rfl
theorem by8_ofInt {n : Int} (h : 0 ≤ n ∧ n ≤ 255) : by8 (BitVec.ofInt 8 n) = n := by
  unfold by8
  rw [BitVec.toNat_ofInt]
  omega
theorem by8_inj {x y : BitVec 8} (h : by8 x = by8 y) : x = y := BitVec.eq_of_toNat_eq (by unfold by8 at h; omega)
theorem by8_zero {x : BitVec 8} : by8 x = 0 ↔ x = 0#8 := ⟨fun h => by8_inj (by rw [h]; rfl), fun h => by rw [h]; rfl⟩
theorem low_bit : ∀ b : BitVec 8, band (by8 b) 1 = (if b.getLsbD 0 then 1 else 0) := by decide
theorem and_255 : ∀ a : BitVec 8, band (by8 a) 255 = by8 a := by decide
theorem and_0 : ∀ a : BitVec 8, band (by8 a) 0 = 0 := by decide
theorem half : ∀ b : BitVec 8, by8 b / (2 : Int) ^ Int.toNat 1 = by8 (b >>> 1) := by decide
theorem top_bit : ∀ a : BitVec 8, by8 a / 2 ^ Int.toNat 7 = (if a.msb then 1 else 0) := by decide
theorem xt_by8 : ∀ a : BitVec 8, bxor (by8 a * 2 ^ Int.toNat 1 % 256) (band 29 (-(by8 a / 2 ^ Int.toNat 7) % 256)) = by8 (xt a) := by decide
theorem shr_zero : ∀ (n : Nat) (b : BitVec 8), by8 b < 2 ^ (n + 1) → by8 (b >>> 1) < 2 ^ n := fun n b h => by
  unfold by8 at *
  rw [BitVec.toNat_ushiftRight, show b.toNat >>> 1 = b.toNat / 2 from Nat.shiftRight_succ _ _]
  have e : (2 : Int) ^ (n + 1) = 2 ^ n * 2 := Int.pow_succ _ _
  omega
theorem mulB_zero : ∀ (n : Nat) (a : BitVec 8), mulB n a 0#8 = 0#8
  | 0, _ => rfl
  | n + 1, a => by simp only [mulB]; rw [show (0#8 >>> 1 : BitVec 8) = 0#8 by decide, mulB_zero n]; simp

theorem mul_c (a b : BitVec 8) : TC R Try.prog reedsolomon_Mul_f [.int .u8 (by8 a), .int .u8 (by8 b)] [] (fun v X => v = .int .u8 (by8 (mulF a b)) ∧ X = []) := by
  refine tc0 env reedsolomon_Mul_s (by rfl) ?_
  dsimp only [reedsolomon_Mul_c]
  repeat' (first
    | refine GZp_i_y ?_ ?_ ?_ ?_ ?_ ?_ ?_ ?_
    | with_reducible first | exact BzZq.mk | refine Tw.ret ?_ | refine ImZq.i fun h => ?_ | refine IkZq.i fun hk => ?_)
  refine Tw.loopK [] (fun q : Nat × BitVec 8 × BitVec 8 × BitVec 8 => by8 q.2.2.2 < 2 ^ q.1 ∧ q.2.1 ^^^ mulB q.1 q.2.2.1 q.2.2.2 = mulF a b) (fun q => q.1) (fun q => [(5, .int .u8 (by8 q.2.1)), (0, .int .u8 (by8 q.2.2.1)), (1, .int .u8 (by8 q.2.2.2))]) (fun _ => [])
    ⟨(8, 0#8, a, b), ⟨by have := (by8_bd b).2; show by8 b < 256; omega, BitVec.zero_xor⟩, TWk.fcanon env [] (by rfl) ?_⟩ (fun q hq => ?_)
  · repeat' (first
      | refine GZ_i_y ?_ ?_ ?_ ?_ ?_ ?_ ?_ ?_
      | with_reducible first | exact BzZq.mk | refine Tw.ret ?_ | refine ImZq.i fun h => ?_ | refine IkZq.i fun hk => ?_)
  obtain ⟨n, acc, x, y⟩ := q
  dsimp only at hq ⊢
  obtain ⟨h1, h2⟩ := hq
  have bx := by8_bd x
  have bY := by8_bd y
  have ba := by8_bd acc
  by_cases hy : y = 0#8
  · subst hy
    have e0 : by8 0#8 = 0 := rfl
    rw [mulB_zero, BitVec.xor_zero] at h2
    repeat' (first
      | refine GZy_i_y e0 ?_ ?_ ?_ ?_ ?_ ?_ ?_ ?_
      | with_reducible first | exact BzZq.mk | refine Tw.ret ?_ | refine ImZq.i fun h => ?_ | refine IkZq.i fun hk => ?_)
    exact ⟨rfl, by rw [h2], rfl⟩
  · have y0 : by8 y ≠ 0 := fun h => hy (by8_zero.1 h)
    cases n with
    | zero =>
      have : by8 y < 1 := h1
      omega
    | succ n =>
      have b1 := low_bit y
      have t1 := top_bit x
      have p1 : band (by8 x) (-(band (by8 y) 1) % 256) = by8 (if y.getLsbD 0 then x else 0#8) := by
        rw [b1]
        cases y.getLsbD 0
        · exact and_0 x
        · exact and_255 x
      have p2 := by8_bd (if y.getLsbD 0 then x else 0#8)
      have p3 : bxor (by8 acc) (by8 (if y.getLsbD 0 then x else 0#8)) = by8 (acc ^^^ if y.getLsbD 0 then x else 0#8) := by8_xor _ _
      have p4 := xt_by8 x
      have p5 := half y
      have p6 : band (by8 y) 1 = 0 ∨ band (by8 y) 1 = 1 := by rw [b1]; cases y.getLsbD 0 <;> simp
      have p7 : by8 x / 2 ^ Int.toNat 7 = 0 ∨ by8 x / 2 ^ Int.toNat 7 = 1 := by rw [t1]; cases x.msb <;> simp
      have p8 : 0 ≤ band 29 (-(by8 x / 2 ^ Int.toNat 7) % 256) ∧ band 29 (-(by8 x / 2 ^ Int.toNat 7) % 256) ≤ 255 := by
        rcases p7 with e | e <;> rw [e] <;> decide
      repeat' (first
        | refine GZy_i_y p1 ?_ ?_ ?_ ?_ ?_ ?_ ?_ ?_
        | with_reducible first | exact BzZq.mk | refine Tw.ret ?_ | refine ImZq.i fun h => ?_ | refine IkZq.i fun hk => ?_)
      have e1 : by8 (acc ^^^ if y.getLsbD 0 then x else 0#8) = bxor (by8 acc) (band (by8 x) (-(band (by8 y) 1) % 256)) := by rw [p1, p3]
      refine ⟨(n, acc ^^^ (if y.getLsbD 0 then x else 0#8), xt x, y >>> 1), ⟨shr_zero n y h1, ?_⟩, by dsimp only; omega, TWk.fcanon env [] (by rfl) ?_⟩
      · dsimp only
        rw [← h2]
        simp only [mulB]
        rw [BitVec.xor_assoc]
      · repeat' (first
          | exact e1
          | exact p4.symm
          | exact p5.symm
          | refine GZ_i_y ?_ ?_ ?_ ?_ ?_ ?_ ?_ ?_
          | with_reducible first | exact BzZq.mk | refine Tw.ret ?_ | refine ImZq.i fun h => ?_ | refine IkZq.i fun hk => ?_)

def pwF (acc x : BitVec 8) (n : Nat) : BitVec 8 := if h : n = 0 then acc else pwF (if n % 2 = 1 then mulF acc x else acc) (mulF x x) (n / 2)
termination_by n
theorem power_c (x : BitVec 8) (n : Nat) (hn : Due (n ≤ 1000000)) : TC R Try.prog reedsolomon_power_f [.int .u8 (by8 x), .int .i64 n] [] (fun v X => v = .int .u8 (by8 (pwF 1#8 x n)) ∧ X = []) := by
  dsimp only [Due] at hn
  refine tc0 env reedsolomon_power_s (by rfl) ?_
  dsimp only [reedsolomon_power_c]
  repeat' (first
    | refine GZp_i_y ?_ ?_ ?_ ?_ ?_ ?_ ?_ ?_
    | with_reducible first | exact BzZq.mk | refine Tw.ret ?_ | refine ImZq.i fun h => ?_ | refine IkZq.i fun hk => ?_)
  refine Tw.loopK [] (fun q : BitVec 8 × BitVec 8 × Nat => q.2.2 ≤ 1000000 ∧ pwF q.1 q.2.1 q.2.2 = pwF 1#8 x n) (fun q => q.2.2) (fun q => [(5, .int .u8 (by8 q.1)), (0, .int .u8 (by8 q.2.1)), (1, .int .i64 q.2.2)]) (fun _ => [])
    ⟨(1#8, x, n), ⟨hn, rfl⟩, TWk.fcanon env [] (by rfl) ?_⟩ (fun q hq => ?_)
  · repeat' (first
      | refine GZ_i_y ?_ ?_ ?_ ?_ ?_ ?_ ?_ ?_
      | with_reducible first | exact BzZq.mk | refine Tw.ret ?_ | refine ImZq.i fun h => ?_ | refine IkZq.i fun hk => ?_)
  obtain ⟨acc, y, k⟩ := q
  dsimp only at hq ⊢
  obtain ⟨h1, h2⟩ := hq
  have by1 := by8_bd y
  have ba := by8_bd acc
  have b1 : band (k : Int) 1 = ((k % 2 : Nat) : Int) := by unfold band; rw [Int.toNat_natCast]; exact congrArg Nat.cast (Nat.and_one_is_mod k)
  have b2 : (k : Int) / 2 ^ Int.toNat 1 = ((k / 2 : Nat) : Int) := by simp
  rw [pwF] at h2
  have m1 := mul_c acc y
  have m2 := mul_c y y
  by_cases hk : k = 0
  · rw [dif_pos hk] at h2
    repeat' (first
      | refine GZp_i_y ?_ ?_ ?_ ?_ ?_ ?_ ?_ ?_
      | with_reducible first | exact BzZq.mk | refine Tw.ret ?_ | refine ImZq.i fun h => ?_ | refine IkZq.i fun hk => ?_)
    exact ⟨rfl, by rw [h2], rfl⟩
  · rw [dif_neg hk] at h2
    by_cases ho : k % 2 = 1
    · rw [if_pos ho] at h2
      repeat' (first
        | ((with_reducible refine TOps.any ?_); refine TOps.callV env (by rfl) (by rfl) (by rfl) (m1) ?_)
        | ((with_reducible refine TOps.any ?_); refine TOps.callV env (by rfl) (by rfl) (by rfl) (m2) ?_)
        | refine GZy_i_y b1 ?_ ?_ ?_ ?_ ?_ ?_ ?_ ?_
        | with_reducible first | exact BzZq.mk | refine Tw.ret ?_ | refine ImZq.i fun h => ?_ | refine IkZq.i fun hk => ?_)
      refine ⟨(mulF acc y, mulF y y, k / 2), ⟨by dsimp only; omega, h2⟩, by dsimp only; omega, TWk.fcanon env [] (by rfl) ?_⟩
      repeat' (first
        | exact b2.symm
        | refine GZ_i_y ?_ ?_ ?_ ?_ ?_ ?_ ?_ ?_
        | with_reducible first | exact BzZq.mk | refine Tw.ret ?_ | refine ImZq.i fun h => ?_ | refine IkZq.i fun hk => ?_)
    · rw [if_neg ho] at h2
      repeat' (first
        | ((with_reducible refine TOps.any ?_); refine TOps.callV env (by rfl) (by rfl) (by rfl) (m2) ?_)
        | refine GZy_i_y b1 ?_ ?_ ?_ ?_ ?_ ?_ ?_ ?_
        | with_reducible first | exact BzZq.mk | refine Tw.ret ?_ | refine ImZq.i fun h => ?_ | refine IkZq.i fun hk => ?_)
      refine ⟨(acc, mulF y y, k / 2), ⟨by dsimp only; omega, h2⟩, by dsimp only; omega, TWk.fcanon env [] (by rfl) ?_⟩
      repeat' (first
        | exact b2.symm
        | refine GZ_i_y ?_ ?_ ?_ ?_ ?_ ?_ ?_ ?_
        | with_reducible first | exact BzZq.mk | refine Tw.ret ?_ | refine ImZq.i fun h => ?_ | refine IkZq.i fun hk => ?_)
/-- The roots. -/
def rt (i : Nat) : BitVec 8 := pwF 1#8 2#8 i
theorem root_c (i : Nat) (hn : Due (i ≤ 1000000)) : TC R Try.prog reedsolomon_power_f [.int .u8 2, .int .i64 i] [] (fun v X => v = .int .u8 (by8 (rt i)) ∧ X = []) := power_c 2#8 i hn
end Go.Proofs.Ythkilkjngincpaa
namespace Go.Proofs.Ythkilkjngincpaa
open Go Go.Lite
set_option linter.unusedVariables false
set_option linter.unusedSimpArgs false
set_option maxRecDepth 100000
set_option maxHeartbeats 4000000

/-- The node of a cell that belongs to t. -/
def gc (st t x : Nat) : Nat := x / st + if t < x % st then 1 else 0
/-- The sum over the t from a on. -/
def tail (f : Nat → Int) (st a : Nat) : Int := sumN f st - sumN f a
theorem tab_set {α : Type} {n i : Nat} {f : Nat → α} {v : α} : (tab n f).set i v = tab n (fun j => if j = i then v else f j) := by
  refine List.ext_getElem (by simp [tab]) fun j h1 h2 => ?_
  simp only [tab, List.length_map, List.length_range] at h2
  rw [List.getElem_set]
  by_cases e : i = j
  · subst e; simp [tab]
  · rw [if_neg e]; simp [tab, show ¬ j = i from fun h => e h.symm]
theorem tab_congr {α : Type} {n : Nat} {f g : Nat → α} (h : ∀ i, i < n → f i = g i) : tab n f = tab n g :=
  List.map_congr_left fun i hi => h i (by simpa using hi)
theorem tab_repl {α : Type} {n : Nat} {v : α} : List.replicate n v = tab n fun _ => v := by
  refine List.ext_getElem (by simp [tab]) fun j h1 h2 => by simp [tab]
/-- A grid's shape is permitted. -/
structure GOk (inn out s : Nat) (vals : List Int) : Prop where
  i1 : 1 ≤ inn ∧ inn ≤ 4
  o1 : 1 ≤ out ∧ out ≤ 8
  s1 : s = 2 ∨ s = 3 ∨ s = 4 ∨ s = 5 ∨ s = 6 ∨ s = 7 ∨ s = 9
  big : s ^ inn * out ≤ 32768
  len : vals.length = s ^ inn * out
  bd : ∀ v ∈ vals, -32768 ≤ v ∧ v ≤ 65535
def gstep (s : Nat) : Nat := 65280 / (s - 1)
theorem GOk.step {inn out s : Nat} {vals : List Int} (g : GOk inn out s vals) : (s - 1) * gstep s = 65280 ∧ 8160 ≤ gstep s ∧ gstep s ≤ 65280 := by
  unfold gstep
  rcases g.s1 with rfl | rfl | rfl | rfl | rfl | rfl | rfl <;> decide
end Go.Proofs.Ythkilkjngincpaa
namespace Go.Proofs.Ythkilkjngincpaa
open Go Go.Lite
set_option linter.unusedVariables false
set_option linter.unusedSimpArgs false
set_option maxRecDepth 100000
set_option maxHeartbeats 4000000
-- @simp rdi rdy

def btab (n : Nat) (f : Nat → BitVec 8) : List Int := tab n fun k => by8 (f k)
theorem btab_len {n : Nat} {f : Nat → BitVec 8} : (btab n f).length = n := tab_len
theorem btab_get {n i : Nat} {f : Nat → BitVec 8} (h : i < n) : (btab n f).getD i 0 = by8 (f i) := tab_get h
theorem btab_congr {n : Nat} {f g : Nat → BitVec 8} (h : ∀ i, i < n → f i = g i) : btab n f = btab n g := tab_congr fun i hi => by rw [h i hi]
theorem btab_set {n i : Nat} {f g : Nat → BitVec 8} {v : Int} (hv : v = by8 (g i)) (h : ∀ k, k < n → k ≠ i → g k = f k) : (btab n f).set i v = btab n g := by
  subst hv
  unfold btab
  rw [tab_set]
  refine tab_congr fun k hk => ?_
  by_cases e : k = i
  · subst e; rw [if_pos rfl]
  · rw [if_neg e, h k hk e]
theorem btab_zero {n : Nat} : List.replicate n (0 : Int) = btab n fun _ => 0#8 := tab_repl
/-- The coefficients after i of the factors, and m of the two products of the next. -/
def tms (G : Nat → BitVec 8) (w : BitVec 8) (i m k : Nat) : BitVec 8 :=
  ((if k < i ∨ (1 ≤ m ∧ k = i) then mulF (G k) w else 0#8) ^^^ (if 1 ≤ k ∧ (k - 1 < i ∨ (2 ≤ m ∧ k - 1 = i)) then G (k - 1) else 0#8))
theorem tms_step (G : Nat → BitVec 8) (w : BitVec 8) (i k : Nat) : tms G w i 2 k = tms G w (i + 1) 0 k := by
  unfold tms
  congr 1
  · by_cases h : k < i ∨ (1 ≤ 2 ∧ k = i)
    · rw [if_pos h, if_pos (by omega)]
    · rw [if_neg h, if_neg (by omega)]
  · by_cases h : 1 ≤ k ∧ (k - 1 < i ∨ (2 ≤ 2 ∧ k - 1 = i))
    · rw [if_pos h, if_pos (by omega)]
    · rw [if_neg h, if_neg (by omega)]
theorem tms_1 (G : Nat → BitVec 8) (w : BitVec 8) (i : Nat) : tms G w i 0 i ^^^ mulF (G i) w = tms G w i 1 i ∧ ∀ k, k ≠ i → tms G w i 1 k = tms G w i 0 k := by
  constructor
  · unfold tms
    rw [if_neg (by omega), if_pos (show i < i ∨ (1 ≤ 1 ∧ i = i) by omega), BitVec.zero_xor, BitVec.xor_comm]
    congr 1
    by_cases h : 1 ≤ i
    · rw [if_pos (by omega), if_pos (by omega)]
    · rw [if_neg (by omega), if_neg (by omega)]
  · intro k hk
    unfold tms
    congr 1
    · by_cases h : k < i
      · rw [if_pos (by omega), if_pos (by omega)]
      · rw [if_neg (by omega), if_neg (by omega)]
    · by_cases h : 1 ≤ k ∧ k - 1 < i
      · rw [if_pos (by omega), if_pos (by omega)]
      · rw [if_neg (by omega), if_neg (by omega)]
theorem tms_2 (G : Nat → BitVec 8) (w : BitVec 8) (i : Nat) : tms G w i 1 (i + 1) ^^^ G i = tms G w i 2 (i + 1) ∧ ∀ k, k ≠ i + 1 → tms G w i 2 k = tms G w i 1 k := by
  constructor
  · unfold tms
    rw [if_neg (by omega), if_neg (by omega), if_neg (by omega), if_pos (by omega)]
    simp
  · intro k hk
    unfold tms
    congr 1
    · by_cases h : k < i ∨ k = i
      · rw [if_pos (by omega), if_pos (by omega)]
      · rw [if_neg (by omega), if_neg (by omega)]
    · by_cases h : 1 ≤ k ∧ k - 1 < i
      · rw [if_pos (by omega), if_pos (by omega)]
      · rw [if_neg (by omega), if_neg (by omega)]
theorem times_r (G : Nat → BitVec 8) (w : BitVec 8) (j L : Nat) (hL : Due (j + 2 ≤ L ∧ L ≤ 1000)) :
    TC R Try.prog _reedsolomon_poly__times_f [.lst Ey (btab (j + 1) G), .lst Ey [by8 w, (1 : Int)], .int .i64 L] []
      (fun v X => v = .sla 1 0 0 (j + 2) ∧ X = [some (.arr Ey (btab (j + 2) (tms G w (j + 1) 0)))]) := by
  dsimp only [Due] at hL
  have gl : (btab (j + 1) G).length = j + 1 := btab_len
  refine tc env _reedsolomon_poly__times_s (by rfl) ?_
  dsimp only [_reedsolomon_poly__times_c]
  have e0 : (min (L : Int) (((btab (j + 1) G).length : Int) + ([by8 w, (1 : Int)].length : Int) - 1)).toNat = j + 2 := by rw [gl]; simp only [List.length_cons, List.length_nil]; omega
  repeat' (first
    | refine GZy_i_y gl ?_ ?_ ?_ ?_ ?_ ?_ ?_ ?_
    | with_reducible first | exact BzZq.mk | refine Tw.ret ?_ | refine ImZq.i fun h => ?_ | refine IkZq.i fun hk => ?_)
  rw [e0]
  have fl : ∀ f, (btab (j + 2) f).length = j + 2 := fun _ => btab_len
  refine Tw.loopK [0, 1, 7, 21, 22] (fun i : Nat => i ≤ j + 1) (fun i => j + 1 - i) (fun i => [(23, .int .i64 i)]) (fun i => [some (.arr Ey (btab (j + 2) (tms G w i 0)))])
    ⟨0, by omega, TWk.fcanon env [some 0] (by rfl) ?_⟩ (fun i hi => ?_)
  · have z : btab (j + 2) (tms G w 0 0) = List.replicate (j + 2) 0 := by
      rw [btab_zero]
      exact btab_congr fun k _ => by unfold tms; rw [if_neg (by omega), if_neg (by omega)]; rfl
    repeat' (first
      | exact z
      | refine GZ_i_y ?_ ?_ ?_ ?_ ?_ ?_ ?_ ?_
      | with_reducible first | exact BzZq.mk | refine Tw.ret ?_ | refine ImZq.i fun h => ?_ | refine IkZq.i fun hk => ?_)
  rcases Nat.lt_or_ge i (j + 1) with hi | hi
  · have gi : (btab (j + 1) G).getD i 0 = by8 (G i) := btab_get hi
    have m1 := mul_c (G i) w
    have m2 := mul_c (G i) 1#8
    rw [← gi] at m1 m2
    rw [mulF_one] at m2
    have e1 : by8 1#8 = 1 := rfl
    rw [e1] at m2
    repeat' (first
      | refine GZy_i_y gl ?_ ?_ ?_ ?_ ?_ ?_ ?_ ?_
      | with_reducible first | exact BzZq.mk | refine Tw.ret ?_ | refine ImZq.i fun h => ?_ | refine IkZq.i fun hk => ?_)
    refine Tw.loopK [0, 1, 7, 8, 9, 21, 22, 23, 28, 29] (fun m : Nat => m ≤ 2) (fun m => 2 - m) (fun m => [(30, .int .i64 m)]) (fun m => [some (.arr Ey (btab (j + 2) (tms G w i m)))])
      ⟨0, by omega, TWk.fcanon env [some 0] (by rfl) ?_⟩ (fun m hm => ?_)
    · repeat' (first
        | refine GZ_i_y ?_ ?_ ?_ ?_ ?_ ?_ ?_ ?_
        | with_reducible first | exact BzZq.mk | refine Tw.ret ?_ | refine ImZq.i fun h => ?_ | refine IkZq.i fun hk => ?_)
    have b1 := by8_bd (tms G w i m i)
    have b2 := by8_bd (tms G w i m (i + 1))
    have b3 := by8_bd (mulF (G i) w)
    have b4 := by8_bd (G i)
    have g1 : (btab (j + 2) (tms G w i m)).getD i 0 = by8 (tms G w i m i) := btab_get (by omega)
    have g2 : (btab (j + 2) (tms G w i m)).getD (i + 1) 0 = by8 (tms G w i m (i + 1)) := btab_get (by omega)
    have hm : m = 0 ∨ m = 1 ∨ m = 2 := by omega
    rcases hm with rfl | rfl | rfl
    · have k0 : ((i : Int) + ((0 : Nat) : Int)).toNat = i := by omega
      have r1 : (btab (j + 2) (tms G w i 0)).set (((i : Int) + ((0 : Nat) : Int)).toNat + 0) (bxor ((btab (j + 2) (tms G w i 0)).getD (((i : Int) + ((0 : Nat) : Int)).toNat + 0) 0) (by8 (mulF (G i) w))) = btab (j + 2) (tms G w i 1) := by
        rw [k0]; simp only [Nat.add_zero]; rw [g1, by8_xor]
        exact btab_set (congrArg by8 (tms_1 G w i).1) fun k _ hk => (tms_1 G w i).2 k hk
      repeat' (first
        | ((with_reducible refine TDr.any ?_); refine TDr.callE env (by first | rfl | assumption) (by rfl) (by rfl) ?_ (m1) (by rfl) (by rfl) ?_)
        | refine GZy_i_y (And.intro gl (And.intro fl (And.intro k0 (And.intro g1 g2)))) ?_ ?_ ?_ ?_ ?_ ?_ ?_ ?_
        | with_reducible first | exact BzZq.mk | refine Tw.ret ?_ | refine ImZq.i fun h => ?_ | refine IkZq.i fun hk => ?_)
      refine ⟨1, by omega, by omega, TWk.fcanon env [some 0] (by rfl) ?_⟩
      repeat' (first
        | exact r1.symm
        | refine GZ_i_y ?_ ?_ ?_ ?_ ?_ ?_ ?_ ?_
        | with_reducible first | exact BzZq.mk | refine Tw.ret ?_ | refine ImZq.i fun h => ?_ | refine IkZq.i fun hk => ?_)
    · have k0 : ((i : Int) + ((1 : Nat) : Int)).toNat = i + 1 := by omega
      have r1 : (btab (j + 2) (tms G w i 1)).set (((i : Int) + ((1 : Nat) : Int)).toNat + 0) (bxor ((btab (j + 2) (tms G w i 1)).getD (((i : Int) + ((1 : Nat) : Int)).toNat + 0) 0) (by8 (G i))) = btab (j + 2) (tms G w i 2) := by
        rw [k0]; simp only [Nat.add_zero]; rw [g2, by8_xor]
        exact btab_set (congrArg by8 (tms_2 G w i).1) fun k _ hk => (tms_2 G w i).2 k hk
      repeat' (first
        | ((with_reducible refine TDr.any ?_); refine TDr.callE env (by first | rfl | assumption) (by rfl) (by rfl) ?_ (m2) (by rfl) (by rfl) ?_)
        | refine GZy_i_y (And.intro gl (And.intro fl (And.intro k0 (And.intro g1 g2)))) ?_ ?_ ?_ ?_ ?_ ?_ ?_ ?_
        | with_reducible first | exact BzZq.mk | refine Tw.ret ?_ | refine ImZq.i fun h => ?_ | refine IkZq.i fun hk => ?_)
      refine ⟨2, by omega, by omega, TWk.fcanon env [some 0] (by rfl) ?_⟩
      repeat' (first
        | exact r1.symm
        | refine GZ_i_y ?_ ?_ ?_ ?_ ?_ ?_ ?_ ?_
        | with_reducible first | exact BzZq.mk | refine Tw.ret ?_ | refine ImZq.i fun h => ?_ | refine IkZq.i fun hk => ?_)
    · have r1 : btab (j + 2) (tms G w (i + 1) 0) = btab (j + 2) (tms G w i 2) := btab_congr fun k _ => (tms_step G w i k).symm
      repeat' (first
        | refine GZp_i_y ?_ ?_ ?_ ?_ ?_ ?_ ?_ ?_
        | with_reducible first | exact BzZq.mk | refine Tw.ret ?_ | refine ImZq.i fun h => ?_ | refine IkZq.i fun hk => ?_)
      refine ⟨i + 1, by omega, by omega, TWk.fcanon env [some 0] (by rfl) ?_⟩
      repeat' (first
        | exact r1
        | refine GZ_i_y ?_ ?_ ?_ ?_ ?_ ?_ ?_ ?_
        | with_reducible first | exact BzZq.mk | refine Tw.ret ?_ | refine ImZq.i fun h => ?_ | refine IkZq.i fun hk => ?_)
  · obtain rfl : i = j + 1 := by omega
    repeat' (first
      | ((with_reducible refine Tw.retI ?_); refine Tw.gc env [0] [6] (by rfl) (by rfl) ?_ (Tw.ret ?_))
      | refine GZp_i_y ?_ ?_ ?_ ?_ ?_ ?_ ?_ ?_
      | with_reducible first | exact BzZq.mk | refine Tw.ret ?_ | refine ImZq.i fun h => ?_ | refine IkZq.i fun hk => ?_)
    all_goals exact ⟨rfl, rfl⟩
/-- The generator, one root more. -/
theorem tms_gco (w : Nat → BitVec 8) (j k : Nat) : tms (gco w j) (w j) (j + 1) 0 k = gco w (j + 1) k := by
  unfold tms
  have e : (if k < j + 1 ∨ (1 ≤ 0 ∧ k = j + 1) then mulF (gco w j k) (w j) else 0#8) = mulF (gco w j k) (w j) := by
    by_cases h : k < j + 1
    · rw [if_pos (by omega)]
    · rw [if_neg (by omega), gco_out w j k (by omega), mulF_zeroL]
  rw [e]
  cases k with
  | zero => rw [if_neg (by omega), BitVec.xor_zero]; rfl
  | succ k =>
    simp only [gco]
    congr 1
    rw [Nat.add_sub_cancel]
    by_cases h : k < j + 1
    · rw [if_pos (by omega)]
    · rw [if_neg (by omega), gco_out w j k (by omega)]
end Go.Proofs.Ythkilkjngincpaa
namespace Go.Proofs.Ythkilkjngincpaa
open Go Go.Lite
set_option linter.unusedVariables false
set_option linter.unusedSimpArgs false
set_option maxRecDepth 100000
set_option maxHeartbeats 4000000
-- @simp rdi rdy

theorem synd_r (f : Nat → BitVec 8) (n t : Nat) (ht : Due (t ≤ 64 ∧ n ≤ 255)) : TC R Try.prog reedsolomon_syndromes_f [.lst Ey (btab n f), .int .i64 t] []
    (fun v X => v = .tup [.sla 1 0 0 t, .bool (decide (∀ i, i < t → hor (rt i) f n = 0#8))] ∧ X = [some (.arr Ey (btab t fun i => hor (rt i) f n))]) := by
  dsimp only [Due] at ht
  have nl : (btab n f).length = n := btab_len
  refine tc env reedsolomon_syndromes_s (by rfl) ?_
  dsimp only [reedsolomon_syndromes_c]
  repeat' (first
    | refine GZy_i_y nl ?_ ?_ ?_ ?_ ?_ ?_ ?_ ?_
    | with_reducible first | exact BzZq.mk | refine Tw.ret ?_ | refine ImZq.i fun h => ?_ | refine IkZq.i fun hk => ?_)
  rw [Int.toNat_natCast]
  have fl : ∀ g, (btab t g).length = t := fun _ => btab_len
  refine Tw.loopK [0, 1, 6, 16] (fun q : Nat × Bool => q.1 ≤ t ∧ (q.2 = true ↔ ∀ i, i < q.1 → hor (rt i) f n = 0#8)) (fun q => t - q.1) (fun q => [(17, .int .i64 q.1), (7, .bool q.2)]) (fun q => [some (.arr Ey (btab t fun i => if i < q.1 then hor (rt i) f n else 0#8))])
    ⟨(0, true), ⟨by dsimp only; omega, ⟨fun _ i hi => by dsimp only at hi; omega, fun _ => rfl⟩⟩, TWk.fcanon env [some 0] (by rfl) ?_⟩ (fun q hq => ?_)
  · have z : (btab t fun i => if i < 0 then hor (rt i) f n else 0#8) = List.replicate t 0 := by
      rw [btab_zero]
      exact btab_congr fun k _ => if_neg (by omega)
    repeat' (first
      | exact z
      | refine GZ_i_y ?_ ?_ ?_ ?_ ?_ ?_ ?_ ?_
      | with_reducible first | exact BzZq.mk | refine Tw.ret ?_ | refine ImZq.i fun h => ?_ | refine IkZq.i fun hk => ?_)
  obtain ⟨i, b⟩ := q
  dsimp only at hq ⊢
  obtain ⟨hi, hb⟩ := hq
  rcases Nat.lt_or_ge i t with hi | hi
  · have rc := root_c i (by unfold Due; omega)
    repeat' (first
      | ((with_reducible refine TOps.any ?_); refine TOps.callV env (by rfl) (by rfl) (by rfl) (rc) ?_)
      | refine GZy_i_y nl ?_ ?_ ?_ ?_ ?_ ?_ ?_ ?_
      | with_reducible first | exact BzZq.mk | refine Tw.ret ?_ | refine ImZq.i fun h => ?_ | refine IkZq.i fun hk => ?_)
    refine Tw.loopK [0, 1, 6, 7, 8, 9, 16, 17, 22, 23] (fun k : Nat => k ≤ n) (fun k => n - k) (fun k => [(24, .int .i64 k), (10, .int .u8 (by8 (hor (rt i) f k)))]) (fun _ => [some (.arr Ey (btab t fun i' => if i' < i then hor (rt i') f n else 0#8))])
      ⟨0, by omega, TWk.fcanon env [some 0] (by rfl) ?_⟩ (fun k hk => ?_)
    · repeat' (first
        | refine GZ_i_y ?_ ?_ ?_ ?_ ?_ ?_ ?_ ?_
        | with_reducible first | exact BzZq.mk | refine Tw.ret ?_ | refine ImZq.i fun h => ?_ | refine IkZq.i fun hk => ?_)
    rcases Nat.lt_or_ge k n with hk | hk
    · have gk : (btab n f).getD k 0 = by8 (f k) := btab_get hk
      have mc := mul_c (hor (rt i) f k) (rt i)
      have b1 := by8_bd (mulF (hor (rt i) f k) (rt i))
      have b2 := by8_bd (f k)
      have e1 : by8 (hor (rt i) f (k + 1)) = bxor (by8 (mulF (hor (rt i) f k) (rt i))) ((btab n f).getD (k : Int).toNat 0) := by
        rw [Int.toNat_natCast, gk, by8_xor]; rfl
      repeat' (first
        | ((with_reducible refine TOps.any ?_); refine TOps.callV env (by rfl) (by rfl) (by rfl) (mc) ?_)
        | refine GZy_i_y (And.intro nl gk) ?_ ?_ ?_ ?_ ?_ ?_ ?_ ?_
        | with_reducible first | exact BzZq.mk | refine Tw.ret ?_ | refine ImZq.i fun h => ?_ | refine IkZq.i fun hk => ?_)
      refine ⟨k + 1, by omega, by omega, TWk.fcanon env [some 0] (by rfl) ?_⟩
      repeat' (first
        | exact e1
        | refine GZ_i_y ?_ ?_ ?_ ?_ ?_ ?_ ?_ ?_
        | with_reducible first | exact BzZq.mk | refine Tw.ret ?_ | refine ImZq.i fun h => ?_ | refine IkZq.i fun hk => ?_)
    · obtain rfl : k = n := by omega
      have b1 := by8_bd (hor (rt i) f k)
      have r1 : (btab t fun i' => if i' < i then hor (rt i') f k else 0#8).set (i : Int).toNat (by8 (hor (rt i) f k)) = btab t fun i' => if i' < i + 1 then hor (rt i') f k else 0#8 := by
        rw [Int.toNat_natCast]
        refine btab_set (by rw [if_pos (by omega)]) fun k' _ hk' => ?_
        by_cases h : k' < i
        · rw [if_pos h, if_pos (by omega)]
        · rw [if_neg h, if_neg (by omega)]
      by_cases hz : hor (rt i) f k = 0#8
      · have hz2 : by8 (hor (rt i) f k) = 0 := by8_zero.2 hz
        have hd : decide (by8 (hor (rt i) f k) = 0) = true := decide_eq_true hz2
        cases b with
        | true =>
          repeat' (first
            | refine GZy_i_y fl ?_ ?_ ?_ ?_ ?_ ?_ ?_ ?_
            | with_reducible first | exact BzZq.mk | refine Tw.ret ?_ | refine ImZq.i fun h => ?_ | refine IkZq.i fun hk => ?_)
          refine ⟨(i + 1, true), ⟨by dsimp only; omega, ⟨fun _ i' hi' => ?_, fun _ => rfl⟩⟩, by dsimp only; omega, TWk.fcanon env [some 0] (by rfl) ?_⟩
          · dsimp only at hi'
            by_cases e : i' = i
            · subst e; exact hz
            · exact hb.1 rfl i' (by omega)
          · repeat' (first
              | exact r1.symm
              | exact hd.symm
              | refine GZ_i_y ?_ ?_ ?_ ?_ ?_ ?_ ?_ ?_
              | with_reducible first | exact BzZq.mk | refine Tw.ret ?_ | refine ImZq.i fun h => ?_ | refine IkZq.i fun hk => ?_)
        | false =>
          repeat' (first
            | refine GZy_i_y fl ?_ ?_ ?_ ?_ ?_ ?_ ?_ ?_
            | with_reducible first | exact BzZq.mk | refine Tw.ret ?_ | refine ImZq.i fun h => ?_ | refine IkZq.i fun hk => ?_)
          refine ⟨(i + 1, false), ⟨by dsimp only; omega, ⟨fun h => (by cases h), fun h => hb.2 fun i' hi' => h i' (by dsimp only; omega)⟩⟩, by dsimp only; omega, TWk.fcanon env [some 0] (by rfl) ?_⟩
          repeat' (first
            | exact r1.symm
            | refine GZ_i_y ?_ ?_ ?_ ?_ ?_ ?_ ?_ ?_
            | with_reducible first | exact BzZq.mk | refine Tw.ret ?_ | refine ImZq.i fun h => ?_ | refine IkZq.i fun hk => ?_)
      · have hz2 : by8 (hor (rt i) f k) ≠ 0 := fun h => hz (by8_zero.1 h)
        have hd : decide (by8 (hor (rt i) f k) = 0) = false := decide_eq_false hz2
        cases b with
        | true =>
          repeat' (first
            | refine GZy_i_y fl ?_ ?_ ?_ ?_ ?_ ?_ ?_ ?_
            | with_reducible first | exact BzZq.mk | refine Tw.ret ?_ | refine ImZq.i fun h => ?_ | refine IkZq.i fun hk => ?_)
          refine ⟨(i + 1, false), ⟨by dsimp only; omega, ⟨fun h => (by cases h), fun h => absurd (h i (by dsimp only; omega)) hz⟩⟩, by dsimp only; omega, TWk.fcanon env [some 0] (by rfl) ?_⟩
          repeat' (first
            | exact r1.symm
            | exact hd.symm
            | refine GZ_i_y ?_ ?_ ?_ ?_ ?_ ?_ ?_ ?_
            | with_reducible first | exact BzZq.mk | refine Tw.ret ?_ | refine ImZq.i fun h => ?_ | refine IkZq.i fun hk => ?_)
        | false =>
          repeat' (first
            | refine GZy_i_y fl ?_ ?_ ?_ ?_ ?_ ?_ ?_ ?_
            | with_reducible first | exact BzZq.mk | refine Tw.ret ?_ | refine ImZq.i fun h => ?_ | refine IkZq.i fun hk => ?_)
          refine ⟨(i + 1, false), ⟨by dsimp only; omega, ⟨fun h => (by cases h), fun h => hb.2 fun i' hi' => h i' (by dsimp only; omega)⟩⟩, by dsimp only; omega, TWk.fcanon env [some 0] (by rfl) ?_⟩
          repeat' (first
            | exact r1.symm
            | refine GZ_i_y ?_ ?_ ?_ ?_ ?_ ?_ ?_ ?_
            | with_reducible first | exact BzZq.mk | refine Tw.ret ?_ | refine ImZq.i fun h => ?_ | refine IkZq.i fun hk => ?_)
  · obtain rfl : i = t := by omega
    have eb : decide (∀ i', i' < i → hor (rt i') f n = 0#8) = b := by
      cases b with
      | true => exact decide_eq_true (hb.1 rfl)
      | false => exact decide_eq_false fun h => by have := hb.2 h; cases this
    have er : (btab i fun i' => if i' < i then hor (rt i') f n else 0#8) = btab i fun i' => hor (rt i') f n := btab_congr fun k hk => if_pos hk
    rw [eb, ← er]
    repeat' (first
      | ((with_reducible refine Tw.retI ?_); refine Tw.gc env [0] [4, 5] (by rfl) (by rfl) ?_ (Tw.ret ?_))
      | refine GZp_i_y ?_ ?_ ?_ ?_ ?_ ?_ ?_ ?_
      | with_reducible first | exact BzZq.mk | refine Tw.ret ?_ | refine ImZq.i fun h => ?_ | refine IkZq.i fun hk => ?_)
    all_goals exact ⟨rfl, rfl⟩
theorem rcheck_c (n t : Nat) (l : List Int) (hl : l.length = n) : TC R Try.prog reedsolomon_check_f [.lst Ey l, .int .i64 t] [] (fun v X => v = .int .i64 (if t < 1 ∨ 64 < t then 3 else if 255 < n then 2 else if n ≤ t then 12 else 0) ∧ X = []) := by
  subst hl
  refine tc0 env reedsolomon_check_s (by rfl) ?_
  dsimp only [reedsolomon_check_c]
  repeat' (first
    | refine GZp_i_y ?_ ?_ ?_ ?_ ?_ ?_ ?_ ?_
    | with_reducible first | exact BzZq.mk | refine Tw.ret ?_ | refine ImZq.i fun h => ?_ | refine IkZq.i fun hk => ?_)
  · rw [if_pos (by omega)]; exact ⟨rfl, rfl, rfl⟩
  · rw [if_neg (by omega), if_pos (by omega)]; exact ⟨rfl, rfl, rfl⟩
  · rw [if_neg (by omega), if_neg (by omega), if_pos (by omega)]; exact ⟨rfl, rfl, rfl⟩
  · rw [if_neg (by omega), if_neg (by omega), if_neg (by omega)]; exact ⟨rfl, rfl, rfl⟩
end Go.Proofs.Ythkilkjngincpaa
namespace Go.Proofs.Ythkilkjngincpaa
open Go Go.Lite
set_option linter.unusedVariables false
set_option linter.unusedSimpArgs false
set_option maxRecDepth 100000
set_option maxHeartbeats 4000000
-- @simp rdi rdy

theorem shift_row {j : Nat} {g : Nat → BitVec 8} (hj : 1 ≤ j) {q : List Int} (hq : q = btab j g) :
    q.take 0 ++ (cut q (Int.toNat 1 + 0) (j - Int.toNat 1)).take ((cut q (Int.toNat 1 + 0) (j - Int.toNat 1)).length.min j) ++ q.drop (0 + (cut q (Int.toNat 1 + 0) (j - Int.toNat 1)).length.min j) = btab j fun k => if k + 1 < j then g (k + 1) else g k := by
  have e : cut q (Int.toNat 1 + 0) (j - Int.toNat 1) = (q.drop 1).take (j - 1) := rfl
  have ql : q.length = j := by rw [hq, btab_len]
  have el : ((q.drop 1).take (j - 1)).length = j - 1 := by simp; omega
  rw [e, el, show (j - 1).min j = j - 1 from Nat.min_eq_left (by omega), List.take_of_length_le (l := (q.drop 1).take (j - 1)) (by omega), Nat.zero_add, List.take_zero, List.nil_append]
  refine ext_getD 0 (by rw [List.length_append, el, List.length_drop, btab_len]; omega) fun i hi => ?_
  rw [List.length_append, el, List.length_drop] at hi
  rw [btab_get (by omega)]
  by_cases h : i < j - 1
  · rw [getD_app1 (by omega), getD_sub h, if_pos (by omega), hq, btab_get (by omega), Nat.add_comm]
  · rw [getD_app2 (by omega), el, if_neg (by omega)]
    have : (q.drop (j - 1)).getD (i - (j - 1)) 0 = q.getD (j - 1 + (i - (j - 1))) 0 := by simp [List.getD_eq_getElem?_getD, List.getElem?_drop]
    rw [this, show j - 1 + (i - (j - 1)) = i by omega, hq, btab_get (by omega)]
theorem encode_c (f : Nat → BitVec 8) (n t : Nat) (ht : Due (1 ≤ t ∧ t ≤ 64 ∧ 1 ≤ n ∧ n + t ≤ 255)) : TC R Try.prog reedsolomon_Encode_f [.lst Ey (btab n f), .int .i64 t] []
    (fun v X => v = .tup [.lst Ey (btab (n + t) (word rt t n f)), .int .i64 0] ∧ X = []) := by
  dsimp only [Due] at ht
  have nl : (btab n f).length = n := btab_len
  refine tc0 env reedsolomon_Encode_s (by rfl) ?_
  dsimp only [reedsolomon_Encode_c]
  repeat' (first
    | refine GZy_i_y nl ?_ ?_ ?_ ?_ ?_ ?_ ?_ ?_
    | with_reducible first | exact BzZq.mk | refine Tw.ret ?_ | refine ImZq.i fun h => ?_ | refine IkZq.i fun hk => ?_)
  refine Tw.loopK [0, 1, 28] (fun j : Nat => j ≤ t) (fun j => t - j) (fun j => [(29, .int .i64 j), (6, .sla 1 0 0 (j + 1))]) (fun j => [some (.arr Ey (btab (j + 1) (gco rt j)))])
    ⟨0, by omega, TWk.fcanon env [some 0] (by rfl) ?_⟩ (fun j hj => ?_)
  · repeat' (first
      | refine GZ_i_y ?_ ?_ ?_ ?_ ?_ ?_ ?_ ?_
      | with_reducible first | exact BzZq.mk | refine Tw.ret ?_ | refine ImZq.i fun h => ?_ | refine IkZq.i fun hk => ?_)
  have gl : ∀ j, (btab (j + 1) (gco rt j)).length = j + 1 := fun _ => btab_len
  rcases Nat.lt_or_ge j t with hj | hj
  · have rc := root_c j (by unfold Due; omega)
    have tr := times_r (gco rt j) (rt j) j (t + 1) (by unfold Due; omega)
    have e1 : btab (j + 2) (tms (gco rt j) (rt j) (j + 1) 0) = btab (j + 2) (gco rt (j + 1)) := btab_congr fun k _ => tms_gco rt j k
    have e2 : ((t + 1 : Nat) : Int) = (t : Int) + 1 := by omega
    have e3 : cut (btab (j + 1) (gco rt j)) 0 (j + 1) = btab (j + 1) (gco rt j) := cut_tab
    have e4 : cut [by8 (rt j), (1 : Int)] 0 2 = [by8 (rt j), 1] := rfl
    rw [e1, e2, ← e3, ← e4] at tr
    have h1 : 0 + (j + 1) ≤ (btab (j + 1) (gco rt j)).length := by rw [gl]; omega
    repeat' (first
      | ((with_reducible refine TOps.any ?_); refine TOps.callV env (by rfl) (by rfl) (by rfl) (rc) ?_)
      | ((with_reducible refine TOps.any ?_); refine TOps.callE env (by rfl) (by rfl) (by rfl) ?_ (tr) (by rfl) ?_)
      | exact h1
      | refine GZp_i_y ?_ ?_ ?_ ?_ ?_ ?_ ?_ ?_
      | with_reducible first | exact BzZq.mk | refine Tw.ret ?_ | refine ImZq.i fun h => ?_ | refine IkZq.i fun hk => ?_)
    refine ⟨j + 1, by omega, by omega, TWk.fcanon env [some 2] (by rfl) ?_⟩
    repeat' (first
      | refine GZ_i_y ?_ ?_ ?_ ?_ ?_ ?_ ?_ ?_
      | with_reducible first | exact BzZq.mk | refine Tw.ret ?_ | refine ImZq.i fun h => ?_ | refine IkZq.i fun hk => ?_)
  obtain rfl : j = t := by omega
  repeat' (first
    | refine GZy_i_y nl ?_ ?_ ?_ ?_ ?_ ?_ ?_ ?_
    | with_reducible first | exact BzZq.mk | refine Tw.ret ?_ | refine ImZq.i fun h => ?_ | refine IkZq.i fun hk => ?_)
  rw [Int.toNat_natCast]
  have rl : ∀ g, (btab j g).length = j := fun _ => btab_len
  refine Tw.loopK [0, 1, 6, 8, 42, 43] (fun m : Nat => m ≤ n) (fun m => n - m) (fun m => [(44, .int .i64 m)]) (fun m => [some (.arr Ey (btab (j + 1) (gco rt j))), some (.arr Ey (btab j (rmd rt j f m)))])
    ⟨0, by omega, TWk.fcanon env [some 0, some 1] (by rfl) ?_⟩ (fun m hm => ?_)
  · repeat' (first
      | exact btab_zero.symm
      | refine GZ_i_y ?_ ?_ ?_ ?_ ?_ ?_ ?_ ?_
      | with_reducible first | exact BzZq.mk | refine Tw.ret ?_ | refine ImZq.i fun h => ?_ | refine IkZq.i fun hk => ?_)
  rcases Nat.lt_or_ge m n with hm | hm
  · have fm : (btab n f).getD m 0 = by8 (f m) := btab_get hm
    have r0 : (btab j (rmd rt j f m)).getD 0 0 = by8 (rmd rt j f m 0) := btab_get (by omega)
    have b1 := by8_bd (f m)
    have b2 := by8_bd (rmd rt j f m 0)
    have x1 : bxor (by8 (f m)) (by8 (rmd rt j f m 0)) = by8 (f m ^^^ rmd rt j f m 0) := by8_xor _ _
    have sr := shift_row (j := j) (by omega) (q := btab j (rmd rt j f m)) rfl
    have hs : ((j : Int) - 1).toNat + 0 < ((btab j (rmd rt j f m)).take 0 ++ (cut (btab j (rmd rt j f m)) (Int.toNat 1 + 0) (j - Int.toNat 1)).take ((cut (btab j (rmd rt j f m)) (Int.toNat 1 + 0) (j - Int.toNat 1)).length.min j) ++ (btab j (rmd rt j f m)).drop (0 + (cut (btab j (rmd rt j f m)) (Int.toNat 1 + 0) (j - Int.toNat 1)).length.min j)).length := by
      rw [sr, btab_len]; omega
    repeat' (first
      | exact hs
      | refine GZy_i_y (And.intro nl (And.intro fm (And.intro r0 rl))) ?_ ?_ ?_ ?_ ?_ ?_ ?_ ?_
      | with_reducible first | exact BzZq.mk | refine Tw.ret ?_ | refine ImZq.i fun h => ?_ | refine IkZq.i fun hk => ?_)
    generalize hfb : f m ^^^ rmd rt j f m 0 = fb at *
    refine Tw.loopK [0, 1, 6, 8, 42, 43, 44, 62] (fun k : Nat => k ≤ j) (fun k => j - k) (fun k => [(63, .int .i64 k), (11, .int .u8 (by8 fb))])
      (fun k => [some (.arr Ey (btab (j + 1) (gco rt j))), some (.arr Ey (btab j fun i => (if i + 1 < j then rmd rt j f m (i + 1) else 0#8) ^^^ (if i < k then mulF fb (gco rt j (j - 1 - i)) else 0#8)))])
      ⟨0, by omega, TWk.fcanon env [some 0, some 1] (by rfl) ?_⟩ (fun k hk => ?_)
    · have r1 : (btab j fun i => (if i + 1 < j then rmd rt j f m (i + 1) else 0#8) ^^^ (if i < 0 then mulF fb (gco rt j (j - 1 - i)) else 0#8)) = ((btab j (rmd rt j f m)).take 0 ++ (cut (btab j (rmd rt j f m)) (Int.toNat 1 + 0) (j - Int.toNat 1)).take ((cut (btab j (rmd rt j f m)) (Int.toNat 1 + 0) (j - Int.toNat 1)).length.min j) ++ (btab j (rmd rt j f m)).drop (0 + (cut (btab j (rmd rt j f m)) (Int.toNat 1 + 0) (j - Int.toNat 1)).length.min j)).set (((j : Int) - 1).toNat + 0) 0 := by
        rw [sr, Nat.add_zero, show ((j : Int) - 1).toNat = j - 1 by omega]
        refine (btab_set (g := fun i => (if i + 1 < j then rmd rt j f m (i + 1) else 0#8) ^^^ (if i < 0 then mulF fb (gco rt j (j - 1 - i)) else 0#8)) ?_ fun i hi hne => ?_).symm
        · rw [if_neg (by omega), if_neg (by omega)]; rfl
        · rw [if_neg (show ¬ i < 0 by omega), BitVec.xor_zero, if_pos (by omega), if_pos (by omega)]
      have x2 : by8 fb = bxor ((btab n f).getD (m : Int).toNat 0) ((btab j (rmd rt j f m)).getD (Int.toNat 0 + 0) 0) := by
        rw [Int.toNat_natCast, fm]
        show by8 fb = bxor (by8 (f m)) ((btab j (rmd rt j f m)).getD 0 0)
        rw [r0, x1]
      repeat' (first
        | exact r1
        | exact x2
        | refine GZ_i_y ?_ ?_ ?_ ?_ ?_ ?_ ?_ ?_
        | with_reducible first | exact BzZq.mk | refine Tw.ret ?_ | refine ImZq.i fun h => ?_ | refine IkZq.i fun hk => ?_)
    rcases Nat.lt_or_ge k j with hk | hk
    · have k1 : ((j : Int) - 1 - k).toNat = j - 1 - k := by omega
      have gg : (btab (j + 1) (gco rt j)).getD (j - 1 - k) 0 = by8 (gco rt j (j - 1 - k)) := btab_get (by omega)
      have mc : TC R Try.prog reedsolomon_Mul_f [.int .u8 (by8 fb), .int .u8 ((btab (j + 1) (gco rt j)).getD (((j : Int) - 1 - k).toNat + 0) 0)] [] (fun v X => v = .int .u8 (by8 (mulF fb (gco rt j (j - 1 - k)))) ∧ X = []) := by
        rw [k1]; simp only [Nat.add_zero]; rw [gg]; exact mul_c fb (gco rt j (j - 1 - k))
      have b3 := by8_bd (mulF fb (gco rt j (j - 1 - k)))
      have vg : (btab j fun i => (if i + 1 < j then rmd rt j f m (i + 1) else 0#8) ^^^ (if i < k then mulF fb (gco rt j (j - 1 - i)) else 0#8)).getD k 0 = by8 (if k + 1 < j then rmd rt j f m (k + 1) else 0#8) := by
        rw [btab_get hk, if_neg (show ¬ k < k by omega), BitVec.xor_zero]
      have b4 := by8_bd (if k + 1 < j then rmd rt j f m (k + 1) else 0#8)
      have r1 : (btab j fun i => (if i + 1 < j then rmd rt j f m (i + 1) else 0#8) ^^^ (if i < k then mulF fb (gco rt j (j - 1 - i)) else 0#8)).set ((k : Int).toNat + 0) (bxor ((btab j fun i => (if i + 1 < j then rmd rt j f m (i + 1) else 0#8) ^^^ (if i < k then mulF fb (gco rt j (j - 1 - i)) else 0#8)).getD ((k : Int).toNat + 0) 0) (by8 (mulF fb (gco rt j (j - 1 - k))))) = btab j fun i => (if i + 1 < j then rmd rt j f m (i + 1) else 0#8) ^^^ (if i < k + 1 then mulF fb (gco rt j (j - 1 - i)) else 0#8) := by
        rw [Int.toNat_natCast]; simp only [Nat.add_zero]; rw [vg, by8_xor]
        refine btab_set (by rw [if_pos (show k < k + 1 by omega)]) fun i hi hne => ?_
        congr 1
        by_cases h : i < k
        · rw [if_pos h, if_pos (by omega)]
        · rw [if_neg h, if_neg (by omega)]
      repeat' (first
        | ((with_reducible refine TDr.any ?_); refine TDr.callE env (by first | rfl | assumption) (by rfl) (by rfl) ?_ (mc) (by rfl) (by rfl) ?_)
        | refine GZy_i_y (And.intro rl (And.intro gl (And.intro k1 (And.intro gg vg)))) ?_ ?_ ?_ ?_ ?_ ?_ ?_ ?_
        | with_reducible first | exact BzZq.mk | refine Tw.ret ?_ | refine ImZq.i fun h => ?_ | refine IkZq.i fun hk => ?_)
      refine ⟨k + 1, by omega, by omega, TWk.fcanon env [some 0, some 1] (by rfl) ?_⟩
      repeat' (first
        | exact r1.symm
        | refine GZ_i_y ?_ ?_ ?_ ?_ ?_ ?_ ?_ ?_
        | with_reducible first | exact BzZq.mk | refine Tw.ret ?_ | refine ImZq.i fun h => ?_ | refine IkZq.i fun hk => ?_)
    · obtain rfl : k = j := by omega
      have r1 : (btab k (rmd rt k f (m + 1))) = btab k fun i => (if i + 1 < k then rmd rt k f m (i + 1) else 0#8) ^^^ (if i < k then mulF fb (gco rt k (k - 1 - i)) else 0#8) := btab_congr fun i hi => by
        rw [if_pos hi]; simp only [rmd]; rw [hfb]
      repeat' (first
        | refine GZp_i_y ?_ ?_ ?_ ?_ ?_ ?_ ?_ ?_
        | with_reducible first | exact BzZq.mk | refine Tw.ret ?_ | refine ImZq.i fun h => ?_ | refine IkZq.i fun hk => ?_)
      refine ⟨m + 1, by omega, by omega, TWk.fcanon env [some 0, some 1] (by rfl) ?_⟩
      repeat' (first
        | exact r1
        | refine GZ_i_y ?_ ?_ ?_ ?_ ?_ ?_ ?_ ?_
        | with_reducible first | exact BzZq.mk | refine Tw.ret ?_ | refine ImZq.i fun h => ?_ | refine IkZq.i fun hk => ?_)
  · obtain rfl : m = n := by omega
    have l1 : (cut (btab j (rmd rt j f m)) 0 j).length = j := by rw [show cut (btab j (rmd rt j f m)) 0 j = btab j (rmd rt j f m) from cut_tab, btab_len]
    have e3 : ((btab m f).length + (cut (btab j (rmd rt j f m)) 0 j).length) * 1 ≤ 140737488355328 ∧ (btab m f).length + (cut (btab j (rmd rt j f m)) 0 j).length ≤ 140737488355328 := by rw [l1, nl]; omega
    have l2 : 0 + j ≤ (btab j (rmd rt j f m)).length := by rw [rl]; omega
    have wl : cut (btab m f) 0 (btab m f).length ++ cut (btab j (rmd rt j f m)) 0 j = btab (m + j) (word rt j m f) := by
      rw [show cut (btab m f) 0 (btab m f).length = btab m f from cut_all rfl, show cut (btab j (rmd rt j f m)) 0 j = btab j (rmd rt j f m) from cut_tab]
      refine ext_getD 0 (by rw [List.length_append, btab_len, btab_len, btab_len]) fun i hi => ?_
      rw [List.length_append, btab_len, btab_len] at hi
      rw [btab_get (by omega)]
      unfold word
      by_cases h : i < m
      · rw [getD_app1 (by rw [btab_len]; exact h), btab_get h, if_pos h]
      · rw [getD_app2 (by rw [btab_len]; omega), btab_len, btab_get (by omega), if_neg h]
    have hle : 0 + ((btab m f).length + (cut (btab j (rmd rt j f m)) 0 j).length) ≤ (cut (btab m f) 0 (btab m f).length ++ cut (btab j (rmd rt j f m)) 0 j).length := by rw [wl, l1, nl, btab_len]; omega
    have fe : cut (cut (btab m f) 0 (btab m f).length ++ cut (btab j (rmd rt j f m)) 0 j) 0 ((btab m f).length + (cut (btab j (rmd rt j f m)) 0 j).length) = btab (m + j) (word rt j m f) := by
      rw [wl, l1, nl]; exact cut_tab
    repeat' (first
      | exact e3
      | exact l2
      | exact hle
      | ((with_reducible refine Tw.retI ?_); refine Tw.frz env 3 (by rfl) (by rfl) (by rfl) ?_ ?_ (Tw.ret ?_))
      | refine GZp_i_y ?_ ?_ ?_ ?_ ?_ ?_ ?_ ?_
      | with_reducible first | exact BzZq.mk | refine Tw.ret ?_ | refine ImZq.i fun h => ?_ | refine IkZq.i fun hk => ?_)
    all_goals first | exact hle | exact ⟨rfl, congrArg (fun l : List Int => (TV.tup [.lst Ey l, .int .i64 0] : TV A)) fe, rfl⟩
end Go.Proofs.Ythkilkjngincpaa
namespace Go.Proofs.Ythkilkjngincpaa
open Go Go.Lite
set_option linter.unusedVariables false
set_option linter.unusedSimpArgs false
set_option maxRecDepth 100000
set_option maxHeartbeats 4000000
-- @simp rdi rdy

def mBit (s : Nat) (W : Nat → BitVec 8) (k : Nat) : Bool := decide (k < 8 * mAll s) && (W (k / 8)).getLsbD (7 - k % 8)
/-- A module of the code whose word is W. -/
def mMod (s : Nat) (W : Nat → BitVec 8) (x y : Nat) : Bool := if mBord s x y then mDark s x y else mBit s W ((y - 1) * (s - 2) + (x - 1))
/-- Modules inside the border ahead of a place. -/
def mCnt (s x y : Nat) : Nat := (min (y - 1) (s - 2)) * (s - 2) + (if 1 ≤ y ∧ y ≤ s - 2 then min (x - 1) (s - 2) else 0)
theorem mBord_iff {s x y : Nat} : mBord s x y = false ↔ x ≠ 0 ∧ y ≠ s - 1 ∧ y ≠ 0 ∧ x ≠ s - 1 := by
  unfold mBord
  simp only [Bool.or_eq_false_iff, beq_eq_false_iff_ne]
  constructor
  · rintro ⟨⟨⟨a, b⟩, c⟩, d⟩; exact ⟨a, b, c, d⟩
  · rintro ⟨a, b, c, d⟩; exact ⟨⟨⟨a, b⟩, c⟩, d⟩
theorem mCnt_in {s x y : Nat} (hs : 8 ≤ s) (hx : x < s) (hy : y < s) (h : mBord s x y = false) : mCnt s x y = (y - 1) * (s - 2) + (x - 1) ∧ mCnt s (x + 1) y = mCnt s x y + 1 := by
  obtain ⟨h1, h2, h3, h4⟩ := mBord_iff.1 h
  have m1 : min (y - 1) (s - 2) = y - 1 := by omega
  unfold mCnt
  rw [m1, if_pos (by omega), if_pos (by omega)]
  omega
theorem mCnt_out {s x y : Nat} (hs : 8 ≤ s) (hx : x < s) (hy : y < s) (h : mBord s x y = true) : mCnt s (x + 1) y = mCnt s x y := by
  have h1 : ¬ (x ≠ 0 ∧ y ≠ s - 1 ∧ y ≠ 0 ∧ x ≠ s - 1) := fun k => by rw [mBord_iff.2 k] at h; cases h
  unfold mCnt
  by_cases hh : 1 ≤ y ∧ y ≤ s - 2
  · rw [if_pos hh, if_pos hh]; omega
  · rw [if_neg hh, if_neg hh]
theorem mCnt_row {s y : Nat} (hs : 8 ≤ s) (hy : y < s) : mCnt s 0 (y + 1) = mCnt s s y := by
  unfold mCnt
  by_cases h0 : y = 0
  · subst h0
    rw [if_neg (show ¬ (1 ≤ 0 ∧ 0 ≤ s - 2) by omega)]
    have e1 : min (0 + 1 - 1) (s - 2) = 0 := by omega
    have e2 : min (0 - 1) (s - 2) = 0 := by omega
    rw [e1]
    try rw [e2]
    split <;> omega
  · have e1 : min (0 - 1) (s - 2) = 0 := by omega
    rw [e1]
    by_cases h1 : y ≤ s - 2
    · obtain ⟨z, rfl⟩ : ∃ z, y = z + 1 := ⟨y - 1, by omega⟩
      have e2 : min (z + 1 + 1 - 1) (s - 2) * (s - 2) = z * (s - 2) + (s - 2) := by
        by_cases hz : z + 1 ≤ s - 2
        · rw [show min (z + 1 + 1 - 1) (s - 2) = z + 1 by omega, Nat.add_mul, Nat.one_mul]
        · omega
      have e3 : min (z + 1 - 1) (s - 2) = z := by omega
      have e4 : min (s - 1) (s - 2) = s - 2 := by omega
      rw [if_pos (show 1 ≤ z + 1 ∧ z + 1 ≤ s - 2 by omega), e2, e3, e4]
      split <;> omega
    · have e2 : min (y + 1 - 1) (s - 2) = s - 2 := by omega
      have e3 : min (y - 1) (s - 2) = s - 2 := by omega
      rw [if_neg (by omega), if_neg (by omega), e2, e3]
theorem mCnt_bd {s x y : Nat} (hs : 8 ≤ s ∧ s ≤ 32) : mCnt s x y ≤ 960 := by
  have h1 : min (y - 1) (s - 2) * (s - 2) ≤ 30 * 30 := Nat.mul_le_mul (by omega) (by omega)
  unfold mCnt
  split <;> omega
theorem mCnt_zero {s : Nat} (hs : 8 ≤ s ∧ s ≤ 32) : mCnt s 0 0 = 0 := by
  unfold mCnt
  rw [if_neg (by omega), show min (0 - 1) (s - 2) = 0 by omega, Nat.zero_mul]
theorem bit8 : ∀ (x : BitVec 8) (r : Fin 8), (band (by8 x / 2 ^ r.1) 1 = 1) = (x.getLsbD r.1 = true) := by
  have key : ∀ (x : BitVec 8) (r : Fin 8), decide (band (by8 x / 2 ^ r.1) 1 = 1) = x.getLsbD r.1 := by decide +kernel
  intro x r
  have := key x r
  rw [← this]; simp
/-- The plain bytes of a code. -/
def mPlain (m : Nat) (g : Nat → BitVec 8) (i : Nat) : BitVec 8 := if i = 0 then BitVec.ofNat 8 m else if i ≤ m then g (i - 1) else 0#8
def mWord (s m : Nat) (g : Nat → BitVec 8) : Nat → BitVec 8 := word rt (mPar s) (mAll s - mPar s) (mPlain m g)
theorem mRow0 (m A P : Nat) (g : Nat → BitVec 8) (hm : m + P + 1 ≤ A) (hA : A ≤ 112) : cut (List.take (Int.toNat 1 + 0) ((List.replicate ((A : Int) - (P : Int)).toNat (0 : Int)).set (Int.toNat 0 + 0) (((btab m g).length : Int) % 256)) ++ List.take ((btab m g).length.min (((A : Int) - (P : Int)).toNat - Int.toNat 1)) (btab m g) ++ List.drop (Int.toNat 1 + 0 + (btab m g).length.min (((A : Int) - (P : Int)).toNat - Int.toNat 1)) ((List.replicate ((A : Int) - (P : Int)).toNat (0 : Int)).set (Int.toNat 0 + 0) (((btab m g).length : Int) % 256))) 0 ((A : Int) - (P : Int)).toNat = btab (A - P) (mPlain m g) := by
  have gl : (btab m g).length = m := btab_len
  have pA : ((A : Int) - (P : Int)).toNat = A - P := by omega
  have n1 : m.min ((A - P) - 1) = m := Nat.min_eq_left (by omega)
  rw [pA, gl, show (A - P - Int.toNat 1) = A - P - 1 from rfl, n1]
  refine is_tab 0 ?_ fun i hi => ?_
  · simp [cut, btab_len]; omega
  · rw [cut_all (by simp [btab_len]; omega)]
    have l1 : (List.take (Int.toNat 1 + 0) ((List.replicate (A - P) (0 : Int)).set (Int.toNat 0 + 0) ((m : Int) % 256))).length = 1 := by simp; omega
    have l2 : (List.take m (btab m g)).length = m := by simp [btab_len]
    unfold mPlain
    by_cases h0 : i = 0
    · subst h0
      rw [if_pos rfl, getD_app1 (by rw [List.length_append, l1]; omega), getD_app1 (by rw [l1]; omega)]
      rw [List.getD_eq_getElem?_getD, List.getElem?_take, if_pos (by decide), ← List.getD_eq_getElem?_getD, show Int.toNat 0 + 0 = 0 from rfl, getD_set_eq (by rw [List.length_replicate]; omega)]
      unfold by8
      rw [BitVec.toNat_ofNat]; omega
    · rw [if_neg h0]
      by_cases h1 : i ≤ m
      · rw [if_pos h1, getD_app1 (by rw [List.length_append, l1, l2]; omega), getD_app2 (by rw [l1]; omega), l1, List.getD_eq_getElem?_getD, List.getElem?_take, if_pos (by omega), ← List.getD_eq_getElem?_getD, btab_get (by omega)]
      · rw [if_neg h1, getD_app2 (by rw [List.length_append, l1, l2]; omega), List.length_append, l1, l2]
        rw [List.getD_eq_getElem?_getD, List.getElem?_drop, ← List.getD_eq_getElem?_getD, show Int.toNat 1 + 0 + m + (i - (1 + m)) = i by simp; omega, getD_set_ne (by simp; omega), getD_repl (by omega)]
        rfl
theorem mRow1 (m A P : Nat) (g : Nat → BitVec 8) (hm : m + P + 1 ≤ A) : ((A : Int) - (P : Int)).toNat ≤ (List.take (Int.toNat 1 + 0) ((List.replicate ((A : Int) - (P : Int)).toNat (0 : Int)).set (Int.toNat 0 + 0) (((btab m g).length : Int) % 256)) ++ List.take ((btab m g).length.min (((A : Int) - (P : Int)).toNat - Int.toNat 1)) (btab m g) ++ List.drop (Int.toNat 1 + 0 + (btab m g).length.min (((A : Int) - (P : Int)).toNat - Int.toNat 1)) ((List.replicate ((A : Int) - (P : Int)).toNat (0 : Int)).set (Int.toNat 0 + 0) (((btab m g).length : Int) % 256))).length := by
  have gl : (btab m g).length = m := btab_len
  have pA : ((A : Int) - (P : Int)).toNat = A - P := by omega
  have n1 : m.min ((A - P) - 1) = m := Nat.min_eq_left (by omega)
  rw [pA, gl, show (A - P - Int.toNat 1) = A - P - 1 from rfl, n1]
  simp [btab_len]; omega
theorem mEncode_c (s m : Nat) (g : Nat → BitVec 8) (hs : Due (Side s)) (hm : Due (m + mPar s + 1 ≤ mAll s)) :
    TC R Try.prog matrix_Encode_f [.lst Ey (btab m g), .int .i64 s] [] (fun v X => v = .tup [.agg [.int .i64 s, .int .i64 s, .lst Ey (bm s s (mMod s (mWord s m g)))], .int .i64 0] ∧ X = []) := by
  have sc := size_c s hs
  have sf := Side.facts hs
  have hb := hs.bd
  dsimp only [Due] at hs hm
  obtain ⟨A, hA⟩ : ∃ A, A = mAll s := ⟨_, rfl⟩
  obtain ⟨P, hP⟩ : ∃ P, P = mPar s := ⟨_, rfl⟩
  have gl : (btab m g).length = m := btab_len
  have ec := encode_c (mPlain m g) (A - P) P (by unfold Due; omega)
  have eW : word rt P (A - P) (mPlain m g) = mWord s m g := by unfold mWord; rw [hA, hP]
  rw [eW, show A - P + P = A by omega] at ec
  have bc := blank_c s s (by unfold Due; omega) (by unfold Due; omega)
  rw [bm_congr (g := upto (mMod s (mWord s m g)) 0 0) fun x y _ _ => upto_none.symm] at bc
  generalize mWord s m g = W at *
  rw [← hA, ← hP] at sf sc
  have pA : ((A : Int) - (P : Int)).toNat = A - P := by omega
  refine tc0 env matrix_Encode_s (by rfl) ?_
  dsimp only [matrix_Encode_c]
  have rl := mRow1 m A P g (by omega)
  rw [← mRow0 m A P g (by omega) (by omega)] at ec
  repeat' (first
    | ((with_reducible refine TOps.any ?_); refine TOps.callV env (by rfl) (by rfl) (by rfl) (sc) ?_)
    | refine GZy_i_y gl ?_ ?_ ?_ ?_ ?_ ?_ ?_ ?_
    | with_reducible first | exact BzZq.mk | refine Tw.ret ?_ | refine ImZq.i fun h => ?_ | refine IkZq.i fun hk => ?_)
  refine TOps.frz env 1 (by rfl) (by rfl) (by rfl) ?_ ?_ ?_
  · repeat' (first
      | exact rl
      | refine GZ_i_y ?_ ?_ ?_ ?_ ?_ ?_ ?_ ?_
      | with_reducible first | exact BzZq.mk | refine Tw.ret ?_ | refine ImZq.i fun h => ?_ | refine IkZq.i fun hk => ?_)
  · repeat' (first
      | exact rl
      | refine GZ_i_y ?_ ?_ ?_ ?_ ?_ ?_ ?_ ?_
      | with_reducible first | exact BzZq.mk | refine Tw.ret ?_ | refine ImZq.i fun h => ?_ | refine IkZq.i fun hk => ?_)
  repeat' (first
    | ((with_reducible refine TOps.any ?_); refine TOps.callV env (by rfl) (by rfl) (by rfl) (ec) ?_)
    | ((with_reducible refine TOps.any ?_); refine TOps.callV env (by rfl) (by rfl) (by rfl) (bc) ?_)
    | refine GZp_i_y ?_ ?_ ?_ ?_ ?_ ?_ ?_ ?_
    | with_reducible first | exact BzZq.mk | refine Tw.ret ?_ | refine ImZq.i fun h => ?_ | refine IkZq.i fun hk => ?_)
  have wl : (btab A W).length = A := btab_len
  refine Tw.loopK [1, 6, 11, 60] (fun y : Nat => y ≤ s) (fun y => s - y) (fun y => [(61, .int .i64 y), (13, .int .i64 (mCnt s 0 y : Nat)), (4, .ptr 0 0), (12, .ptr 2 0)])
    (fun y => [some (.cells [.int .i64 0, .int .i64 0, .nils]), some (.arr Ey (bm s s (upto (mMod s W) 0 y))), some (.cells [.int .i64 s, .int .i64 s, .sla 1 1 0 (st s * s)])]) ⟨0, by omega, TWk.fcanon env [some 0, some 2, some 3] (by rfl) ?_⟩ (fun y hy => ?_)
  · have z := congrArg (fun n : Nat => (n : Int)) (mCnt_zero hb)
    repeat' (first
      | exact z.symm
      | exact z
      | refine GZ_i_y ?_ ?_ ?_ ?_ ?_ ?_ ?_ ?_
      | with_reducible first | exact BzZq.mk | refine Tw.ret ?_ | refine ImZq.i fun h => ?_ | refine IkZq.i fun hk => ?_)
  rcases Nat.lt_or_ge y s with hy | hy
  · repeat' (first
      | refine GZp_i_y ?_ ?_ ?_ ?_ ?_ ?_ ?_ ?_
      | with_reducible first | exact BzZq.mk | refine Tw.ret ?_ | refine ImZq.i fun h => ?_ | refine IkZq.i fun hk => ?_)
    refine Tw.loopK [1, 6, 11, 60, 61, 4, 12, 14, 64] (fun x : Nat => x ≤ s) (fun x => s - x) (fun x => [(65, .int .i64 x), (13, .int .i64 (mCnt s x y : Nat))])
      (fun x => [some (.cells [.int .i64 0, .int .i64 0, .nils]), some (.arr Ey (bm s s (upto (mMod s W) x y))), some (.cells [.int .i64 s, .int .i64 s, .sla 1 1 0 (st s * s)])]) ⟨0, by omega, TWk.fcanon env [some 0, some 1, some 2] (by rfl) ?_⟩ (fun x hx => ?_)
    · repeat' (first
        | refine GZ_i_y ?_ ?_ ?_ ?_ ?_ ?_ ?_ ?_
        | with_reducible first | exact BzZq.mk | refine Tw.ret ?_ | refine ImZq.i fun h => ?_ | refine IkZq.i fun hk => ?_)
    rcases Nat.lt_or_ge x s with hx | hx
    · have dc := dark_c s x y (by unfold Due; omega) hx hy
      have hbd := bm_bd (w := s) (h := s) (f := upto (mMod s W) x y) (at8_lt hx hy)
      have hbl := bm_len (w := s) (h := s) (f := upto (mMod s W) x y)
      have hmk := bm_mark (f := upto (mMod s W) x y) hx hy
      have mc := mark_c s s (bm s s (upto (mMod s W) x y)) x y (by unfold Due; omega) (by unfold Due; omega) hbl hbd hx hy
      rw [hmk] at mc
      have cb := mCnt_bd (s := s) (x := x) (y := y) hb
      have em : mMod s W x y = if mBord s x y then mDark s x y else mBit s W ((y - 1) * (s - 2) + (x - 1)) := rfl
      cases hB : mBord s x y with
      | true =>
        rw [hB, if_pos rfl] at em
        rw [hB] at dc
        have cn := mCnt_out (s := s) (by omega) hx hy hB
        cases hD : mDark s x y with
        | true =>
          rw [hD] at em dc
          rw [bm_congr (f := fun i j => upto (mMod s W) x y i j || (decide (i = x) && decide (j = y))) fun i j _ _ => upto_yes em i j] at mc
          repeat' (first
            | ((with_reducible refine TOps.any ?_); refine TOps.callV env (by rfl) (by rfl) (by rfl) (dc) ?_)
            | ((with_reducible refine TOps.any ?_); refine TOps.callHE env [2, 1] (mc) (by rfl) (by rfl) (by rfl) (by rfl) (by rfl) (by rfl) (by repeat' (first | exact trivial | refine ⟨rfl, ?_⟩)) ?_)
            | refine GZp_i_y ?_ ?_ ?_ ?_ ?_ ?_ ?_ ?_
            | with_reducible first | exact BzZq.mk | refine Tw.ret ?_ | refine ImZq.i fun h => ?_ | refine IkZq.i fun hk => ?_)
          refine ⟨x + 1, by omega, by omega, TWk.fcanon env [some 0, some 1, some 2] (by rfl) ?_⟩
          repeat' (first
            | exact congrArg (fun n : Nat => (n : Int)) cn
            | refine GZ_i_y ?_ ?_ ?_ ?_ ?_ ?_ ?_ ?_
            | with_reducible first | exact BzZq.mk | refine Tw.ret ?_ | refine ImZq.i fun h => ?_ | refine IkZq.i fun hk => ?_)
        | false =>
          rw [hD] at em dc
          rw [bm_congr fun i j _ _ => upto_no em i j]
          repeat' (first
            | ((with_reducible refine TOps.any ?_); refine TOps.callV env (by rfl) (by rfl) (by rfl) (dc) ?_)
            | refine GZp_i_y ?_ ?_ ?_ ?_ ?_ ?_ ?_ ?_
            | with_reducible first | exact BzZq.mk | refine Tw.ret ?_ | refine ImZq.i fun h => ?_ | refine IkZq.i fun hk => ?_)
          refine ⟨x + 1, by omega, by omega, TWk.fcanon env [some 0, some 1, some 2] (by rfl) ?_⟩
          repeat' (first
            | exact congrArg (fun n : Nat => (n : Int)) cn
            | refine GZ_i_y ?_ ?_ ?_ ?_ ?_ ?_ ?_ ?_
            | with_reducible first | exact BzZq.mk | refine Tw.ret ?_ | refine ImZq.i fun h => ?_ | refine IkZq.i fun hk => ?_)
      | false =>
        rw [hB, if_neg (by simp)] at em
        rw [hB] at dc
        obtain ⟨c1, c2⟩ := mCnt_in (s := s) (by omega) hx hy hB
        rw [← c1] at em
        generalize mCnt s x y = k at *
        have u1 : quo (k : Int) 8 = ((k / 8 : Nat) : Int) := by rw [quo_nn (by omega)]; omega
        have u2 : rem (k : Int) 8 = ((k % 8 : Nat) : Int) := by rw [rem_nn (by omega)]; omega
        have u3 : (7 - rem (k : Int) 8).toNat = 7 - k % 8 := by rw [u2]; omega
        have v1 : (k : Int) < 8 * A → (btab A W).getD (quo (k : Int) 8).toNat 0 = by8 (W (k / 8)) := fun h => by rw [u1, Int.toNat_natCast, btab_get (by omega)]
        have v2 : (k : Int) < 8 * A → (band ((btab A W).getD (quo (k : Int) 8).toNat 0 / 2 ^ (7 - rem (k : Int) 8).toNat) 1 = 1) = ((W (k / 8)).getLsbD (7 - k % 8) = true) := fun h => by
          rw [v1 h, u3]; exact bit8 _ ⟨7 - k % 8, by omega⟩
        have bb := by8_bd (W (k / 8))
        have sh : ∀ n : Nat, 0 ≤ by8 (W (k / 8)) / 2 ^ n ∧ by8 (W (k / 8)) / 2 ^ n ≤ 255 := fun n => by
          have h2 : (0 : Int) < 2 ^ n := Int.pow_pos (by omega)
          exact ⟨Int.ediv_nonneg (by omega) (by omega), Int.le_trans (Int.ediv_le_self _ (by omega)) (by omega)⟩
        have g1 : decide ((k : Int) < 8 * (A : Int)) = true → rng IntKind.i64 (quo (k : Int) 8) := fun _ => by rw [u1]; simp only [rng]; omega
        have g2 : decide ((k : Int) < 8 * (A : Int)) = true → 0 ≤ quo (k : Int) 8 ∧ quo (k : Int) 8 < ((btab A W).length : Int) := fun h => by have := of_decide_eq_true h; rw [u1, wl]; omega
        have g3 : decide ((k : Int) < 8 * (A : Int)) = true → -9223372036854775808 ≤ 7 - rem (k : Int) 8 ∧ 7 - rem (k : Int) 8 ≤ 9223372036854775807 := fun _ => by rw [u2]; omega
        have g4 : decide ((k : Int) < 8 * (A : Int)) = true → 0 ≤ 7 - rem (k : Int) 8 := fun _ => by rw [u2]; omega
        have g5 : decide ((k : Int) < 8 * (A : Int)) = true → rng IntKind.u8 ((btab A W).getD (quo (k : Int) 8).toNat 0) := fun h => by rw [v1 (of_decide_eq_true h)]; simp only [rng]; omega
        have g6 : decide ((k : Int) < 8 * (A : Int)) = true → 0 ≤ (btab A W).getD (quo (k : Int) 8).toNat 0 / 2 ^ (7 - rem (k : Int) 8).toNat := fun h => by rw [v1 (of_decide_eq_true h)]; exact (sh _).1
        have g7 : decide ((k : Int) < 8 * (A : Int)) = true → rng IntKind.u8 ((btab A W).getD (quo (k : Int) 8).toNat 0 / 2 ^ (7 - rem (k : Int) 8).toNat) := fun h => by rw [v1 (of_decide_eq_true h)]; have := sh (7 - rem (k : Int) 8).toNat; simp only [rng]; omega
        have eb : mBit s W k = decide ((k : Int) < 8 * (A : Int) ∧ band ((btab A W).getD (quo (k : Int) 8).toNat 0 / 2 ^ (7 - rem (k : Int) 8).toNat) 1 = 1) := by
          unfold mBit
          rw [← hA]
          by_cases hk : (k : Int) < 8 * (A : Int)
          · rw [decide_eq_true (show k < 8 * A by omega), Bool.true_and]
            have v3 := v2 hk
            cases hc : (W (k / 8)).getLsbD (7 - k % 8)
            · rw [hc] at v3
              rw [decide_eq_false]; rintro ⟨_, h⟩; rw [v3] at h; cases h
            · rw [hc] at v3
              rw [decide_eq_true]; exact ⟨hk, by rw [v3]⟩
          · rw [decide_eq_false (show ¬ k < 8 * A by omega), decide_eq_false (fun h => hk h.1)]; rfl
        rw [eb] at em
        by_cases hq : (k : Int) < 8 * (A : Int) ∧ band ((btab A W).getD (quo (k : Int) 8).toNat 0 / 2 ^ (7 - rem (k : Int) 8).toNat) 1 = 1
        · rw [decide_eq_true hq] at em
          rw [bm_congr (f := fun i j => upto (mMod s W) x y i j || (decide (i = x) && decide (j = y))) fun i j _ _ => upto_yes em i j] at mc
          repeat' (first
            | ((with_reducible refine TOps.any ?_); refine TOps.callV env (by rfl) (by rfl) (by rfl) (dc) ?_)
            | ((with_reducible refine TOps.any ?_); refine TOps.callHE env [2, 1] (mc) (by rfl) (by rfl) (by rfl) (by rfl) (by rfl) (by rfl) (by repeat' (first | exact trivial | refine ⟨rfl, ?_⟩)) ?_)
            | exact g1
            | exact g2
            | exact g3
            | exact g4
            | exact g5
            | exact g6
            | exact g7
            | refine GZ_i_y ?_ ?_ ?_ ?_ ?_ ?_ ?_ ?_
            | with_reducible first | exact BzZq.mk | refine Tw.ret ?_ | refine ImZq.i fun h => ?_ | refine IkZq.i fun hk => ?_)
          refine ⟨x + 1, by omega, by omega, TWk.fcanon env [some 0, some 1, some 2] (by rfl) ?_⟩
          repeat' (first
            | exact congrArg (fun n : Nat => (n : Int)) c2
            | refine GZ_i_y ?_ ?_ ?_ ?_ ?_ ?_ ?_ ?_
            | with_reducible first | exact BzZq.mk | refine Tw.ret ?_ | refine ImZq.i fun h => ?_ | refine IkZq.i fun hk => ?_)
        · rw [decide_eq_false hq] at em
          rw [bm_congr fun i j _ _ => upto_no em i j]
          repeat' (first
            | ((with_reducible refine TOps.any ?_); refine TOps.callV env (by rfl) (by rfl) (by rfl) (dc) ?_)
            | exact g1
            | exact g2
            | exact g3
            | exact g4
            | exact g5
            | exact g6
            | exact g7
            | refine GZ_i_y ?_ ?_ ?_ ?_ ?_ ?_ ?_ ?_
            | with_reducible first | exact BzZq.mk | refine Tw.ret ?_ | refine ImZq.i fun h => ?_ | refine IkZq.i fun hk => ?_)
          refine ⟨x + 1, by omega, by omega, TWk.fcanon env [some 0, some 1, some 2] (by rfl) ?_⟩
          repeat' (first
            | exact congrArg (fun n : Nat => (n : Int)) c2
            | refine GZ_i_y ?_ ?_ ?_ ?_ ?_ ?_ ?_ ?_
            | with_reducible first | exact BzZq.mk | refine Tw.ret ?_ | refine ImZq.i fun h => ?_ | refine IkZq.i fun hk => ?_)
    · obtain rfl : x = s := by omega
      have cr := mCnt_row (s := x) (by omega) hy
      rw [bm_congr fun i j hi _ => upto_row (g := mMod x W) (y := y) hi]
      repeat' (first
        | refine GZp_i_y ?_ ?_ ?_ ?_ ?_ ?_ ?_ ?_
        | with_reducible first | exact BzZq.mk | refine Tw.ret ?_ | refine ImZq.i fun h => ?_ | refine IkZq.i fun hk => ?_)
      refine ⟨y + 1, by omega, by omega, TWk.fcanon env [some 0, some 1, some 2] (by rfl) ?_⟩
      repeat' (first
        | exact congrArg (fun n : Nat => (n : Int)) cr
        | refine GZ_i_y ?_ ?_ ?_ ?_ ?_ ?_ ?_ ?_
        | with_reducible first | exact BzZq.mk | refine Tw.ret ?_ | refine ImZq.i fun h => ?_ | refine IkZq.i fun hk => ?_)
  · obtain rfl : y = s := by omega
    rw [bm_congr fun i j _ hj => upto_all (g := mMod y W) hj]
    have hbl := bm_len (w := y) (h := y) (f := mMod y W)
    have hle : 0 + st y * y ≤ (bm y y (mMod y W)).length := by omega
    repeat' (first
      | exact hle
      | ((with_reducible refine Tw.retI ?_); refine Tw.frz env 1 (by rfl) (by rfl) (by rfl) ?_ ?_ (Tw.ret ?_))
      | refine GZp_i_y ?_ ?_ ?_ ?_ ?_ ?_ ?_ ?_
      | with_reducible first | exact BzZq.mk | refine Tw.ret ?_ | refine ImZq.i fun h => ?_ | refine IkZq.i fun hk => ?_)
    rw [cut_all bm_len.symm]
    exact ⟨rfl, rfl, rfl⟩
end Go.Proofs.Ythkilkjngincpaa
