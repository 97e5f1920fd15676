/- Reed-Solomon: the product of a polynomial with one root, and the sums of a word. -/
import Derived.Test.YthkilkjngincpaaRs1
import Derived.Test.YthkilkjngincpaaGridM
import Derived.Test.YthkilkjngincpaaGo
namespace Go.Proofs.Ythkilkjngincpaa
open Go Go.Lite
set_option linter.unusedVariables false
set_option linter.unusedSimpArgs false
set_option maxRecDepth 100000
set_option maxHeartbeats 4000000
-- @simp rdi rdy

def btab (n : Nat) (f : Nat → BitVec 8) : List Int := tab n fun k => by8 (f k)
theorem btab_len {n : Nat} {f : Nat → BitVec 8} : (btab n f).length = n := tab_len
theorem btab_get {n i : Nat} {f : Nat → BitVec 8} (h : i < n) : (btab n f).getD i 0 = by8 (f i) := tab_get h
theorem btab_congr {n : Nat} {f g : Nat → BitVec 8} (h : ∀ i, i < n → f i = g i) : btab n f = btab n g := tab_congr fun i hi => by rw [h i hi]
theorem btab_set {n i : Nat} {f g : Nat → BitVec 8} {v : Int} (hv : v = by8 (g i)) (h : ∀ k, k < n → k ≠ i → g k = f k) : (btab n f).set i v = btab n g := by
  subst hv
  unfold btab
  rw [tab_set]
  refine tab_congr fun k hk => ?_
  by_cases e : k = i
  · subst e; rw [if_pos rfl]
  · rw [if_neg e, h k hk e]
theorem btab_zero {n : Nat} : List.replicate n (0 : Int) = btab n fun _ => 0#8 := tab_repl
/-- The coefficients after i of the factors, and m of the two products of the next. -/
def tms (G : Nat → BitVec 8) (w : BitVec 8) (i m k : Nat) : BitVec 8 :=
  ((if k < i ∨ (1 ≤ m ∧ k = i) then mulF (G k) w else 0#8) ^^^ (if 1 ≤ k ∧ (k - 1 < i ∨ (2 ≤ m ∧ k - 1 = i)) then G (k - 1) else 0#8))
theorem tms_step (G : Nat → BitVec 8) (w : BitVec 8) (i k : Nat) : tms G w i 2 k = tms G w (i + 1) 0 k := by
  unfold tms
  congr 1
  · by_cases h : k < i ∨ (1 ≤ 2 ∧ k = i)
    · rw [if_pos h, if_pos (by omega)]
    · rw [if_neg h, if_neg (by omega)]
  · by_cases h : 1 ≤ k ∧ (k - 1 < i ∨ (2 ≤ 2 ∧ k - 1 = i))
    · rw [if_pos h, if_pos (by omega)]
    · rw [if_neg h, if_neg (by omega)]
theorem tms_1 (G : Nat → BitVec 8) (w : BitVec 8) (i : Nat) : tms G w i 0 i ^^^ mulF (G i) w = tms G w i 1 i ∧ ∀ k, k ≠ i → tms G w i 1 k = tms G w i 0 k := by
  constructor
  · unfold tms
    rw [if_neg (by omega), if_pos (show i < i ∨ (1 ≤ 1 ∧ i = i) by omega), BitVec.zero_xor, BitVec.xor_comm]
    congr 1
    by_cases h : 1 ≤ i
    · rw [if_pos (by omega), if_pos (by omega)]
    · rw [if_neg (by omega), if_neg (by omega)]
  · intro k hk
    unfold tms
    congr 1
    · by_cases h : k < i
      · rw [if_pos (by omega), if_pos (by omega)]
      · rw [if_neg (by omega), if_neg (by omega)]
    · by_cases h : 1 ≤ k ∧ k - 1 < i
      · rw [if_pos (by omega), if_pos (by omega)]
      · rw [if_neg (by omega), if_neg (by omega)]
theorem tms_2 (G : Nat → BitVec 8) (w : BitVec 8) (i : Nat) : tms G w i 1 (i + 1) ^^^ G i = tms G w i 2 (i + 1) ∧ ∀ k, k ≠ i + 1 → tms G w i 2 k = tms G w i 1 k := by
  constructor
  · unfold tms
    rw [if_neg (by omega), if_neg (by omega), if_neg (by omega), if_pos (by omega)]
    simp
  · intro k hk
    unfold tms
    congr 1
    · by_cases h : k < i ∨ k = i
      · rw [if_pos (by omega), if_pos (by omega)]
      · rw [if_neg (by omega), if_neg (by omega)]
    · by_cases h : 1 ≤ k ∧ k - 1 < i
      · rw [if_pos (by omega), if_pos (by omega)]
      · rw [if_neg (by omega), if_neg (by omega)]
theorem times_r (G : Nat → BitVec 8) (w : BitVec 8) (j L : Nat) (hL : Due (j + 2 ≤ L ∧ L ≤ 1000)) :
    TC R Try.prog _reedsolomon_poly__times_f [.lst Ey (btab (j + 1) G), .lst Ey [by8 w, (1 : Int)], .int .i64 L] []
      (fun v X => v = .sla 1 0 0 (j + 2) ∧ X = [some (.arr Ey (btab (j + 2) (tms G w (j + 1) 0)))]) := by
  dsimp only [Due] at hL
  have gl : (btab (j + 1) G).length = j + 1 := btab_len
  refine tc env _reedsolomon_poly__times_s (by rfl) ?_
  dsimp only [_reedsolomon_poly__times_c]
  have e0 : (min (L : Int) (((btab (j + 1) G).length : Int) + ([by8 w, (1 : Int)].length : Int) - 1)).toNat = j + 2 := by rw [gl]; simp only [List.length_cons, List.length_nil]; omega
  repeat' (first
    | refine GZy_i_y gl ?_ ?_ ?_ ?_ ?_ ?_ ?_ ?_
    | with_reducible first | exact BzZq.mk | refine Tw.ret ?_ | refine ImZq.i fun h => ?_ | refine IkZq.i fun hk => ?_)
  rw [e0]
  have fl : ∀ f, (btab (j + 2) f).length = j + 2 := fun _ => btab_len
  refine Tw.loopK [0, 1, 7, 21, 22] (fun i : Nat => i ≤ j + 1) (fun i => j + 1 - i) (fun i => [(23, .int .i64 i)]) (fun i => [some (.arr Ey (btab (j + 2) (tms G w i 0)))])
    ⟨0, by omega, TWk.fcanon env [some 0] (by rfl) ?_⟩ (fun i hi => ?_)
  · have z : btab (j + 2) (tms G w 0 0) = List.replicate (j + 2) 0 := by
      rw [btab_zero]
      exact btab_congr fun k _ => by unfold tms; rw [if_neg (by omega), if_neg (by omega)]; rfl
    repeat' (first
      | exact z
      | refine GZ_i_y ?_ ?_ ?_ ?_ ?_ ?_ ?_ ?_
      | with_reducible first | exact BzZq.mk | refine Tw.ret ?_ | refine ImZq.i fun h => ?_ | refine IkZq.i fun hk => ?_)
  rcases Nat.lt_or_ge i (j + 1) with hi | hi
  · have gi : (btab (j + 1) G).getD i 0 = by8 (G i) := btab_get hi
    have m1 := mul_c (G i) w
    have m2 := mul_c (G i) 1#8
    rw [← gi] at m1 m2
    rw [mulF_one] at m2
    have e1 : by8 1#8 = 1 := rfl
    rw [e1] at m2
    repeat' (first
      | refine GZy_i_y gl ?_ ?_ ?_ ?_ ?_ ?_ ?_ ?_
      | with_reducible first | exact BzZq.mk | refine Tw.ret ?_ | refine ImZq.i fun h => ?_ | refine IkZq.i fun hk => ?_)
    refine Tw.loopK [0, 1, 7, 8, 9, 21, 22, 23, 28, 29] (fun m : Nat => m ≤ 2) (fun m => 2 - m) (fun m => [(30, .int .i64 m)]) (fun m => [some (.arr Ey (btab (j + 2) (tms G w i m)))])
      ⟨0, by omega, TWk.fcanon env [some 0] (by rfl) ?_⟩ (fun m hm => ?_)
    · repeat' (first
        | with_reducible first | exact Conj.nil | refine Conj.cons rfl ?_ | refine Conj.same ?_ | refine Conj.ask ?_ ?_
        | ((with_reducible refine Due.mk ?_); (first | with_reducible rfl | omega | assumption | decide | ((try simp only [goS] at *) <;> (try intro h) <;> (try intro h') <;> (try simp only [goS] at *) <;> (try simp only [rdi, rdy, Int.toNat_natCast, Nat.add_zero] at *) <;> (try simp only [rng]) <;> (first | assumption | omega)) | (exact due_app0 (by omega)) | (exact due_app (by omega)) | (intros; simp; done) | (intros; simp; omega)))
        | with_reducible refine Due.mk ?_
        | omega)
    have b1 := by8_bd (tms G w i m i)
    have b2 := by8_bd (tms G w i m (i + 1))
    have b3 := by8_bd (mulF (G i) w)
    have b4 := by8_bd (G i)
    have g1 : (btab (j + 2) (tms G w i m)).getD i 0 = by8 (tms G w i m i) := btab_get (by omega)
    have g2 : (btab (j + 2) (tms G w i m)).getD (i + 1) 0 = by8 (tms G w i m (i + 1)) := btab_get (by omega)
    have hm : m = 0 ∨ m = 1 ∨ m = 2 := by omega
    rcases hm with rfl | rfl | rfl
    · have k0 : ((i : Int) + ((0 : Nat) : Int)).toNat = i := by omega
      have r1 : (btab (j + 2) (tms G w i 0)).set (((i : Int) + ((0 : Nat) : Int)).toNat + 0) (bxor ((btab (j + 2) (tms G w i 0)).getD (((i : Int) + ((0 : Nat) : Int)).toNat + 0) 0) (by8 (mulF (G i) w))) = btab (j + 2) (tms G w i 1) := by
        rw [k0]; simp only [Nat.add_zero]; rw [g1, by8_xor]
        exact btab_set (congrArg by8 (tms_1 G w i).1) fun k _ hk => (tms_1 G w i).2 k hk
      repeat' (first
        | ((with_reducible refine TDr.any ?_); refine TDr.callE env (by first | rfl | assumption) (by rfl) (by rfl) ?_ (m1) (by rfl) (by rfl) ?_)
        | refine GZy_i_y (And.intro gl (And.intro fl (And.intro k0 (And.intro g1 g2)))) ?_ ?_ ?_ ?_ ?_ ?_ ?_ ?_
        | with_reducible first | exact BzZq.mk | refine Tw.ret ?_ | refine ImZq.i fun h => ?_ | refine IkZq.i fun hk => ?_)
      refine ⟨1, by omega, by omega, TWk.fcanon env [some 0] (by rfl) ?_⟩
      repeat' (first
        | exact r1.symm
        | with_reducible first | exact Conj.nil | refine Conj.cons rfl ?_ | refine Conj.same ?_ | refine Conj.ask ?_ ?_
        | ((with_reducible refine Due.mk ?_); (first | with_reducible rfl | omega | assumption | decide | ((try simp only [goS] at *) <;> (try intro h) <;> (try intro h') <;> (try simp only [goS] at *) <;> (try simp only [rdi, rdy, Int.toNat_natCast, Nat.add_zero] at *) <;> (try simp only [rng]) <;> (first | assumption | omega)) | (exact due_app0 (by omega)) | (exact due_app (by omega)) | (intros; simp; done) | (intros; simp; omega)))
        | with_reducible refine Due.mk ?_
        | omega)
    · have k0 : ((i : Int) + ((1 : Nat) : Int)).toNat = i + 1 := by omega
      have r1 : (btab (j + 2) (tms G w i 1)).set (((i : Int) + ((1 : Nat) : Int)).toNat + 0) (bxor ((btab (j + 2) (tms G w i 1)).getD (((i : Int) + ((1 : Nat) : Int)).toNat + 0) 0) (by8 (G i))) = btab (j + 2) (tms G w i 2) := by
        rw [k0]; simp only [Nat.add_zero]; rw [g2, by8_xor]
        exact btab_set (congrArg by8 (tms_2 G w i).1) fun k _ hk => (tms_2 G w i).2 k hk
      repeat' (first
        | ((with_reducible refine TDr.any ?_); refine TDr.callE env (by first | rfl | assumption) (by rfl) (by rfl) ?_ (m2) (by rfl) (by rfl) ?_)
        | refine GZy_i_y (And.intro gl (And.intro fl (And.intro k0 (And.intro g1 g2)))) ?_ ?_ ?_ ?_ ?_ ?_ ?_ ?_
        | with_reducible first | exact BzZq.mk | refine Tw.ret ?_ | refine ImZq.i fun h => ?_ | refine IkZq.i fun hk => ?_)
      refine ⟨2, by omega, by omega, TWk.fcanon env [some 0] (by rfl) ?_⟩
      repeat' (first
        | exact r1.symm
        | with_reducible first | exact Conj.nil | refine Conj.cons rfl ?_ | refine Conj.same ?_ | refine Conj.ask ?_ ?_
        | ((with_reducible refine Due.mk ?_); (first | with_reducible rfl | omega | assumption | decide | ((try simp only [goS] at *) <;> (try intro h) <;> (try intro h') <;> (try simp only [goS] at *) <;> (try simp only [rdi, rdy, Int.toNat_natCast, Nat.add_zero] at *) <;> (try simp only [rng]) <;> (first | assumption | omega)) | (exact due_app0 (by omega)) | (exact due_app (by omega)) | (intros; simp; done) | (intros; simp; omega)))
        | with_reducible refine Due.mk ?_
        | omega)
    · have r1 : btab (j + 2) (tms G w (i + 1) 0) = btab (j + 2) (tms G w i 2) := btab_congr fun k _ => (tms_step G w i k).symm
      repeat' (first
        | refine GZp_i_y ?_ ?_ ?_ ?_ ?_ ?_ ?_ ?_
        | with_reducible first | exact BzZq.mk | refine Tw.ret ?_ | refine ImZq.i fun h => ?_ | refine IkZq.i fun hk => ?_)
      refine ⟨i + 1, by omega, by omega, TWk.fcanon env [some 0] (by rfl) ?_⟩
      repeat' (first
        | exact r1
        | with_reducible first | exact Conj.nil | refine Conj.cons rfl ?_ | refine Conj.same ?_ | refine Conj.ask ?_ ?_
        | ((with_reducible refine Due.mk ?_); (first | with_reducible rfl | omega | assumption | decide | ((try simp only [goS] at *) <;> (try intro h) <;> (try intro h') <;> (try simp only [goS] at *) <;> (try simp only [rdi, rdy, Int.toNat_natCast, Nat.add_zero] at *) <;> (try simp only [rng]) <;> (first | assumption | omega)) | (exact due_app0 (by omega)) | (exact due_app (by omega)) | (intros; simp; done) | (intros; simp; omega)))
        | with_reducible refine Due.mk ?_
        | omega)
  · obtain rfl : i = j + 1 := by omega
    repeat' (first
      | ((with_reducible refine Tw.retI ?_); refine Tw.gc env [0] [6] (by rfl) (by rfl) ?_ (Tw.ret ?_))
      | refine GZp_i_y ?_ ?_ ?_ ?_ ?_ ?_ ?_ ?_
      | with_reducible first | exact BzZq.mk | refine Tw.ret ?_ | refine ImZq.i fun h => ?_ | refine IkZq.i fun hk => ?_)
    all_goals exact ⟨rfl, rfl⟩
/-- The generator, one root more. -/
theorem tms_gco (w : Nat → BitVec 8) (j k : Nat) : tms (gco w j) (w j) (j + 1) 0 k = gco w (j + 1) k := by
  unfold tms
  have e : (if k < j + 1 ∨ (1 ≤ 0 ∧ k = j + 1) then mulF (gco w j k) (w j) else 0#8) = mulF (gco w j k) (w j) := by
    by_cases h : k < j + 1
    · rw [if_pos (by omega)]
    · rw [if_neg (by omega), gco_out w j k (by omega), mulF_zeroL]
  rw [e]
  cases k with
  | zero => rw [if_neg (by omega), BitVec.xor_zero]; rfl
  | succ k =>
    simp only [gco]
    congr 1
    rw [Nat.add_sub_cancel]
    by_cases h : k < j + 1
    · rw [if_pos (by omega)]
    · rw [if_neg (by omega), gco_out w j k (by omega)]
end Go.Proofs.Ythkilkjngincpaa
