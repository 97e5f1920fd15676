/- Merged: RMod Rc1. -/
import Derived.Test.YtjedljdfkoagbaaXBilevelDamage0
import Derived.Test.YtjedljdfkoagbaaGo
import Derived.Test.YtjedljdfkoagbaaBits2
namespace Go.Proofs.Ytjedljdfkoagbaa
open Go Go.Lite
set_option linter.unusedVariables false
set_option linter.unusedSimpArgs false
set_option maxRecDepth 100000
set_option maxHeartbeats 4000000

theorem rFloor_c (n d : Int) (h : Due (1 ≤ d ∧ d ≤ 9223372036854775807 ∧ -9223372036854775808 ≤ n ∧ n ≤ 9223372036854775807)) : TC R Try.prog R2_Floor_f [.int .i64 n, .int .i64 d] [] (fun v X => v = .int .i64 (n / d) ∧ X = []) := by
  dsimp only [Due] at h
  have hd : 0 < d := by omega
  have hq := quo_bd (a := n) hd
  have hr := quo_rem n d
  have hb := rem_bd (a := n) hd
  have hc : quo n d * d = d * quo n d := Int.mul_comm _ _
  have hf : rem n d < 0 → -9223372036854775808 ≤ quo n d - 1 := fun h1 => by
    rw [quo_fl1 hd h1]
    have h2 : d * (n / d) + n % d = n := Int.mul_ediv_add_emod n d
    have h3 := Int.emod_nonneg n (show d ≠ 0 by omega)
    have h4 := Int.emod_lt_of_pos n hd
    by_cases e : d = 1
    · subst e; omega
    · rcases Int.lt_or_le (n / d) (-9223372036854775808) with h5 | h5
      · have : d * (n / d) ≤ 2 * (n / d) := by
          have := Int.mul_le_mul_of_nonneg_right (show (2 : Int) ≤ d by omega) (show 0 ≤ -(n / d) by omega)
          rw [Int.mul_neg, Int.mul_neg] at this
          omega
        omega
      · exact h5
  refine tc0 env R2_Floor_s (by rfl) ?_
  dsimp only [R2_Floor_c]
  repeat' (first
    | refine GZ ?_ ?_ ?_ ?_ ?_ ?_ ?_ ?_
    | with_reducible first | exact BzZq.mk | refine Tw.ret ?_ | refine ImZq.i fun h => ?_ | refine IkZq.i fun hk => ?_)
  · exact ⟨rfl, by rw [quo_fl1 hd (by omega)], rfl⟩
  · exact ⟨rfl, by rw [quo_fl hd (by omega)], rfl⟩

/-- The remainder, for every number. -/
theorem rMod_c (n m : Int) (h : Due (1 ≤ m ∧ m ≤ 9223372036854775807 ∧ -9223372036854775808 ≤ n ∧ n ≤ 9223372036854775807)) : TC R Try.prog R2_Mod_f [.int .i64 n, .int .i64 m] [] (fun v X => v = .int .i64 (n % m) ∧ X = []) := by
  dsimp only [Due] at h
  have h1 := Int.emod_nonneg n (show m ≠ 0 by omega)
  have h2 := Int.emod_lt_of_pos n (show 0 < m by omega)
  have h3 : m * (n / m) + n % m = n := Int.mul_ediv_add_emod n m
  refine tc0 env R2_Mod_s (by rfl) ?_
  dsimp only [R2_Mod_c]
  repeat' (first
    | refine GZ ?_ ?_ ?_ ?_ ?_ ?_ ?_ ?_
    | with_reducible first | exact BzZq.mk | refine Tw.ret ?_ | refine ImZq.i fun h => ?_ | refine IkZq.i fun hk => ?_)
  refine TOps.call env (by rfl) (by rfl) (by rfl) (rFloor_c _ _ h) ?_
  rintro _ _ ⟨rfl, rfl⟩
  refine TOps.wrap env (by rfl) ?_
  refine TOps.wrap env (by rfl) ?_
  rw [wrap_sub (by omega), show n - m * (n / m) = n % m by omega]
  repeat' (first
    | refine GZ ?_ ?_ ?_ ?_ ?_ ?_ ?_ ?_
    | with_reducible first | exact BzZq.mk | refine Tw.ret ?_ | refine ImZq.i fun h => ?_ | refine IkZq.i fun hk => ?_)
  exact ⟨rfl, rfl, rfl⟩
end Go.Proofs.Ytjedljdfkoagbaa
namespace Go.Proofs.Ytjedljdfkoagbaa
open Go Go.Lite
set_option linter.unusedVariables false
set_option linter.unusedSimpArgs false
set_option maxRecDepth 100000
set_option maxHeartbeats 4000000
-- @simp rdi rdy

abbrev Cx := List (Int × Int)
/-- The zeros and all bits of a context. -/
def czE (cs : Cx) (i : Nat) : Int := (cs.getD i (0, 0)).1
def caE (cs : Cx) (i : Nat) : Int := (cs.getD i (0, 0)).2
/-- The contexts are as the coder leaves them. -/
def CxOk (cs : Cx) : Prop := ∀ i, i < cs.length → 0 ≤ czE cs i ∧ czE cs i ≤ caE cs i ∧ caE cs i ≤ 253
/-- The part of an interval that belongs to a zero. -/
def rspl (cs : Cx) (i : Nat) (w : Int) : Int := w / (caE cs i + 2) * (czE cs i + 1)

theorem rspl_bd {cs : Cx} {i : Nat} {w : Int} (h : CxOk cs) (hi : i < cs.length) (hw : 16777216 ≤ w) : 65536 ≤ rspl cs i w ∧ rspl cs i w + 65536 ≤ w := by
  obtain ⟨h1, h2, h3⟩ := h i hi
  unfold rspl
  generalize caE cs i = a at *
  generalize czE cs i = z at *
  have e1 := Int.mul_ediv_add_emod w (a + 2)
  have e2 := Int.emod_nonneg w (show a + 2 ≠ 0 by omega)
  have e3 := Int.emod_lt_of_pos w (show 0 < a + 2 by omega)
  have hq : 65536 ≤ w / (a + 2) := by
    refine (Int.le_ediv_iff_mul_le (by omega)).2 ?_
    omega
  generalize w / (a + 2) = q at *
  have k1 : q * (z + 1) ≤ q * (a + 1) := Int.mul_le_mul_of_nonneg_left (by omega) (by omega)
  have k2 : q * 1 ≤ q * (z + 1) := Int.mul_le_mul_of_nonneg_left (by omega) (by omega)
  have k3 : (a + 2) * q = q * (a + 1) + q := by grind
  constructor <;> omega

theorem split_e (cs : Cx) (w b : Int) (i : Nat) (lo : Int) (d : List Int) (c : Bool)(hi : Due (i < cs.length)) (h : Due (CxOk cs)) (hw : Due (16777216 ≤ w ∧ w < 4294967296)) :
    TC R Try.prog __rangecoder_model__split_f [.pel [.lst E2w cs, .int .u32 w, .int .i64 b, .int .u32 lo, .lst Ey d, .bool c], .int .i64 i] [] (fun v X => v = .int .u32 (rspl cs i w) ∧ X = []) := by
  dsimp only [Due] at hi h hw
  have hb := rspl_bd h hi hw.1
  obtain ⟨h1, h2, h3⟩ := h i hi
  refine tc0 env __rangecoder_model__split_s (by rfl) ?_
  dsimp only [__rangecoder_model__split_c]
  have e1 : (cs.getD i (R.d E2w)).2 = caE cs i := rfl
  have e2 : (cs.getD i (R.d E2w)).1 = czE cs i := rfl
  have q2 : (caE cs i + 2) % 4294967296 = caE cs i + 2 := by omega
  have q3 : (czE cs i + 1) % 4294967296 = czE cs i + 1 := by omega
  have q4 : quo w (caE cs i + 2) = w / (caE cs i + 2) := quo_nn (by omega)
  have q5 : 0 ≤ w / (caE cs i + 2) ∧ w / (caE cs i + 2) ≤ 4294967295 := ⟨Int.ediv_nonneg (by omega) (by omega), by have := Int.ediv_le_self (caE cs i + 2) (show 0 ≤ w by omega); omega⟩
  repeat' (first
    | refine GZy_i_y (And.intro e1 (And.intro e2 (And.intro q2 (And.intro q3 q4)))) ?_ ?_ ?_ ?_ ?_ ?_ ?_ ?_
    | with_reducible first | exact BzZq.mk | refine Tw.ret ?_ | refine ImZq.i fun h => ?_ | refine IkZq.i fun hk => ?_)
  refine ⟨rfl, congrArg (TV.int IntKind.u32) ?_, rfl⟩
  rw [Int.toNat_natCast, e1, e2, q2, q3, q4]
  exact Int.emod_eq_of_lt (a := rspl cs i w) (by omega) (by omega)

theorem rcheck_e (cs : Cx) (w b : Int) (i : Int) (lo : Int) (d : List Int) (c : Bool)(hi : Due (cs.length ≤ 4096)) :
    TC R Try.prog __rangecoder_model__check_f [.pel [.lst E2w cs, .int .u32 w, .int .i64 b, .int .u32 lo, .lst Ey d, .bool c], .int .i64 i] [] (fun v X => v = .int .i64 (if 0 ≤ i ∧ i < cs.length then (if b < 1048576 then 0 else 16) else 3) ∧ X = []) := by
  dsimp only [Due] at hi
  refine tc0 env __rangecoder_model__check_s (by rfl) ?_
  dsimp only [__rangecoder_model__check_c]
  repeat' (first
    | refine GZp_i_y ?_ ?_ ?_ ?_ ?_ ?_ ?_ ?_
    | with_reducible first | exact BzZq.mk | refine Tw.ret ?_ | refine ImZq.i fun h => ?_ | refine IkZq.i fun hk => ?_)
  · rw [if_neg (by omega)]; exact ⟨rfl, rfl, rfl⟩
  · rw [if_pos (by omega), if_neg (by omega)]; exact ⟨rfl, rfl, rfl⟩
  · rw [if_pos (by omega), if_pos (by omega)]; exact ⟨rfl, rfl, rfl⟩
theorem split_d (cs : Cx) (w b : Int) (i : Nat) (lo : Int) (d : List Int) (hi : Due (i < cs.length)) (h : Due (CxOk cs)) (hw : Due (16777216 ≤ w ∧ w < 4294967296)) :
    TC R Try.prog __rangecoder_model__split_f [.pel [.lst E2w cs, .int .u32 w, .int .i64 b, .int .u32 lo, .lst Ey d], .int .i64 i] [] (fun v X => v = .int .u32 (rspl cs i w) ∧ X = []) := by
  dsimp only [Due] at hi h hw
  have hb := rspl_bd h hi hw.1
  obtain ⟨h1, h2, h3⟩ := h i hi
  refine tc0 env __rangecoder_model__split_s (by rfl) ?_
  dsimp only [__rangecoder_model__split_c]
  have e1 : (cs.getD i (R.d E2w)).2 = caE cs i := rfl
  have e2 : (cs.getD i (R.d E2w)).1 = czE cs i := rfl
  have q2 : (caE cs i + 2) % 4294967296 = caE cs i + 2 := by omega
  have q3 : (czE cs i + 1) % 4294967296 = czE cs i + 1 := by omega
  have q4 : quo w (caE cs i + 2) = w / (caE cs i + 2) := quo_nn (by omega)
  have q5 : 0 ≤ w / (caE cs i + 2) ∧ w / (caE cs i + 2) ≤ 4294967295 := ⟨Int.ediv_nonneg (by omega) (by omega), by have := Int.ediv_le_self (caE cs i + 2) (show 0 ≤ w by omega); omega⟩
  repeat' (first
    | refine GZy_i_y (And.intro e1 (And.intro e2 (And.intro q2 (And.intro q3 q4)))) ?_ ?_ ?_ ?_ ?_ ?_ ?_ ?_
    | with_reducible first | exact BzZq.mk | refine Tw.ret ?_ | refine ImZq.i fun h => ?_ | refine IkZq.i fun hk => ?_)
  refine ⟨rfl, congrArg (TV.int IntKind.u32) ?_, rfl⟩
  rw [Int.toNat_natCast, e1, e2, q2, q3, q4]
  exact Int.emod_eq_of_lt (a := rspl cs i w) (by omega) (by omega)

theorem rcheck_d (cs : Cx) (w b : Int) (i : Int) (lo : Int) (d : List Int) (hi : Due (cs.length ≤ 4096)) :
    TC R Try.prog __rangecoder_model__check_f [.pel [.lst E2w cs, .int .u32 w, .int .i64 b, .int .u32 lo, .lst Ey d], .int .i64 i] [] (fun v X => v = .int .i64 (if 0 ≤ i ∧ i < cs.length then (if b < 1048576 then 0 else 16) else 3) ∧ X = []) := by
  dsimp only [Due] at hi
  refine tc0 env __rangecoder_model__check_s (by rfl) ?_
  dsimp only [__rangecoder_model__check_c]
  repeat' (first
    | refine GZp_i_y ?_ ?_ ?_ ?_ ?_ ?_ ?_ ?_
    | with_reducible first | exact BzZq.mk | refine Tw.ret ?_ | refine ImZq.i fun h => ?_ | refine IkZq.i fun hk => ?_)
  · rw [if_neg (by omega)]; exact ⟨rfl, rfl, rfl⟩
  · rw [if_pos (by omega), if_neg (by omega)]; exact ⟨rfl, rfl, rfl⟩
  · rw [if_pos (by omega), if_pos (by omega)]; exact ⟨rfl, rfl, rfl⟩

/-- What a context learns from a bit. -/
def lrn (c : Int × Int) (b : Int) : Int × Int :=
  if c.2 + 1 = 254 then ((c.1 + (1 - b)) / 2, (c.1 + (1 - b)) / 2 + (c.2 + 1 - (c.1 + (1 - b))) / 2) else (c.1 + (1 - b), c.2 + 1)
def lrnC (cs : Cx) (i : Nat) (b : Int) : Cx := cs.set i (lrn (cs.getD i (0, 0)) b)

theorem lrn_ok {cs : Cx} {i : Nat} {b : Int} (h : CxOk cs) (hb : b = 0 ∨ b = 1) : CxOk (lrnC cs i b) := by
  intro k hk
  unfold lrnC at *
  rw [List.length_set] at hk
  have := h k hk
  by_cases hki : i = k
  · subst hki
    unfold czE caE at *
    rw [getD_set_eq hk]
    unfold lrn
    split <;> simp only <;> omega
  · unfold czE caE at *
    rw [getD_set_ne hki]; exact this

theorem learn_e (cs : Cx) (w b : Int) (i : Nat) (t : Nat) (lo : Int) (o n : Nat) (d : List Int) (c : Bool)(hi : i < cs.length) (h : CxOk cs) (ht : t ≤ 1) (hb : 0 ≤ b ∧ b < 1048576) :
    TC R Try.prog __rangecoder_model__learn_f [.ptr 0 0, .int .i64 i, .int .i64 t] [some (.cells [.sla 2 1 0 cs.length, .int .u32 w, .int .i64 b, .int .u32 lo, .sla 1 2 o n, .bool c]), some (.arr E2w cs), some (.arr Ey d)]
      (fun v X => v = .tup [] ∧ X = [some (.cells [.sla 2 1 0 cs.length, .int .u32 w, .int .i64 (b + 1), .int .u32 lo, .sla 1 2 o n, .bool c]), some (.arr E2w (lrnC cs i t)), some (.arr Ey d)]) := by
  obtain ⟨h1, h2, h3⟩ := h i hi
  obtain ⟨z, a, e0⟩ : ∃ z a, cs.getD i (R.d E2w) = (z, a) := ⟨_, _, rfl⟩
  have ez : czE cs i = z := congrArg Prod.fst e0
  have ea : caE cs i = a := congrArg Prod.snd e0
  rw [ez] at h1 h2
  rw [ea] at h2 h3
  have gs : ∀ u, (cs.set i u).getD i (R.d E2w) = u := fun u => getD_set_eq hi
  have ss : ∀ u v, (cs.set i u).set i v = cs.set i v := fun u v => List.set_set ..
  have q1 : (1 - (t : Int)) % 4294967296 = 1 - t := by omega
  have q2 : (z + (1 - (t : Int))) % 4294967296 = z + (1 - t) := by omega
  have q3 : (a + 1) % 4294967296 = a + 1 := by omega
  have q4 : (a + 1 - (z + (1 - (t : Int)))) % 4294967296 = a + 1 - (z + (1 - t)) := by omega
  have q5 : quo (a + 1 - (z + (1 - (t : Int)))) 2 = (a + 1 - (z + (1 - t))) / 2 := quo_nn (by omega)
  have q6 : quo (z + (1 - (t : Int))) 2 = (z + (1 - t)) / 2 := quo_nn (by omega)
  have q7 : ((z + (1 - (t : Int))) / 2 + (a + 1 - (z + (1 - t))) / 2) % 4294967296 = (z + (1 - (t : Int))) / 2 + (a + 1 - (z + (1 - t))) / 2 := by omega
  have fin : lrnC cs i t = cs.set i (lrn (z, a) t) := by unfold lrnC; exact congrArg (fun x => cs.set i (lrn x t)) e0
  refine tc env __rangecoder_model__learn_s (by rfl) ?_
  dsimp only [__rangecoder_model__learn_c]
  repeat' (first
    | refine GZy_i_y (And.intro gs (And.intro ss (And.intro e0 (And.intro q1 (And.intro q2 (And.intro q3 (And.intro q4 (And.intro q5 q6)))))))) ?_ ?_ ?_ ?_ ?_ ?_ ?_ ?_
    | with_reducible first | exact BzZq.mk | refine Tw.ret ?_ | refine ImZq.i fun h => ?_ | refine IkZq.i fun hk => ?_)
  · refine ⟨rfl, ?_⟩
    simp only [Int.toNat_natCast, Nat.add_zero, ss, gs, e0, q1, q2, q3, q4, q5, q6, q7, fin]
    unfold lrn
    rw [if_pos (by assumption)]
  · refine ⟨rfl, ?_⟩
    simp only [Int.toNat_natCast, Nat.add_zero, ss, gs, e0, q1, q2, q3, q4, q5, q6, q7, fin]
    unfold lrn
    rw [if_neg (by assumption)]
theorem learn_d (cs : Cx) (w b : Int) (i : Nat) (t : Nat) (lo : Int) (o n : Nat) (d : List Int) (hi : i < cs.length) (h : CxOk cs) (ht : t ≤ 1) (hb : 0 ≤ b ∧ b < 1048576) :
    TC R Try.prog __rangecoder_model__learn_f [.ptr 0 0, .int .i64 i, .int .i64 t] [some (.cells [.sla 2 1 0 cs.length, .int .u32 w, .int .i64 b, .int .u32 lo, .sla 1 2 o n]), some (.arr E2w cs), some (.arr Ey d)]
      (fun v X => v = .tup [] ∧ X = [some (.cells [.sla 2 1 0 cs.length, .int .u32 w, .int .i64 (b + 1), .int .u32 lo, .sla 1 2 o n]), some (.arr E2w (lrnC cs i t)), some (.arr Ey d)]) := by
  obtain ⟨h1, h2, h3⟩ := h i hi
  obtain ⟨z, a, e0⟩ : ∃ z a, cs.getD i (R.d E2w) = (z, a) := ⟨_, _, rfl⟩
  have ez : czE cs i = z := congrArg Prod.fst e0
  have ea : caE cs i = a := congrArg Prod.snd e0
  rw [ez] at h1 h2
  rw [ea] at h2 h3
  have gs : ∀ u, (cs.set i u).getD i (R.d E2w) = u := fun u => getD_set_eq hi
  have ss : ∀ u v, (cs.set i u).set i v = cs.set i v := fun u v => List.set_set ..
  have q1 : (1 - (t : Int)) % 4294967296 = 1 - t := by omega
  have q2 : (z + (1 - (t : Int))) % 4294967296 = z + (1 - t) := by omega
  have q3 : (a + 1) % 4294967296 = a + 1 := by omega
  have q4 : (a + 1 - (z + (1 - (t : Int)))) % 4294967296 = a + 1 - (z + (1 - t)) := by omega
  have q5 : quo (a + 1 - (z + (1 - (t : Int)))) 2 = (a + 1 - (z + (1 - t))) / 2 := quo_nn (by omega)
  have q6 : quo (z + (1 - (t : Int))) 2 = (z + (1 - t)) / 2 := quo_nn (by omega)
  have q7 : ((z + (1 - (t : Int))) / 2 + (a + 1 - (z + (1 - t))) / 2) % 4294967296 = (z + (1 - (t : Int))) / 2 + (a + 1 - (z + (1 - t))) / 2 := by omega
  have fin : lrnC cs i t = cs.set i (lrn (z, a) t) := by unfold lrnC; exact congrArg (fun x => cs.set i (lrn x t)) e0
  refine tc env __rangecoder_model__learn_s (by rfl) ?_
  dsimp only [__rangecoder_model__learn_c]
  repeat' (first
    | refine GZy_i_y (And.intro gs (And.intro ss (And.intro e0 (And.intro q1 (And.intro q2 (And.intro q3 (And.intro q4 (And.intro q5 q6)))))))) ?_ ?_ ?_ ?_ ?_ ?_ ?_ ?_
    | with_reducible first | exact BzZq.mk | refine Tw.ret ?_ | refine ImZq.i fun h => ?_ | refine IkZq.i fun hk => ?_)
  · refine ⟨rfl, ?_⟩
    simp only [Int.toNat_natCast, Nat.add_zero, ss, gs, e0, q1, q2, q3, q4, q5, q6, q7, fin]
    unfold lrn
    rw [if_pos (by assumption)]
  · refine ⟨rfl, ?_⟩
    simp only [Int.toNat_natCast, Nat.add_zero, ss, gs, e0, q1, q2, q3, q4, q5, q6, q7, fin]
    unfold lrn
    rw [if_neg (by assumption)]
end Go.Proofs.Ytjedljdfkoagbaa
