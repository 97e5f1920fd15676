/- The profile of one ink: what it is, its colours, its nearest tone. -/
import Derived.Test.YtkapjajlkpepmaaInv12
import Derived.Test.YtkapjajlkpepmaaCurve4
import Derived.Test.YtkapjajlkpepmaaXInverseBest0
import Derived.Test.YtkapjajlkpepmaaGo
namespace Go.Proofs.Ytkapjajlkpepmaa
open Go Go.Lite
set_option linter.unusedVariables false
set_option linter.unusedSimpArgs false
set_option maxRecDepth 100000
set_option maxHeartbeats 4000000
-- @simp rdi rd2i rdL2iJ

def lineC : List (Int × Int) := [(0, 0), (65280, 65280)]
def pOne : Prf := ⟨⟨#[112, 49]⟩, [⟨#[98, 108, 97, 99, 107]⟩], [lineC], 1, 3, 2, [10000, 0, 0, 2000, 100, -100]⟩
theorem line_c : TC R Try.prog K2_line_f [] [] (fun v X => v = .agg [.lst E2i lineC] ∧ X = []) := by
  refine tc0 env K2_line_s (by rfl) ?_
  dsimp only [K2_line_c]
  repeat' (first
    | ((with_reducible refine Tw.retI ?_); refine Tw.frz env 1 (by rfl) (by rfl) (by rfl) ?_ ?_ (Tw.ret ?_))
    | refine GZ_i_2i_L2iJ ?_ ?_ ?_ ?_ ?_ ?_ ?_ ?_
    | with_reducible first | exact BzZq.mk | refine Tw.ret ?_ | refine ImZq.i fun h => ?_ | refine IkZq.i fun hk => ?_)
  exact ⟨rfl, rfl, rfl⟩
theorem name_is {s : ByteArray} (n : Nat) (h : s.size = n) (h1 : 1 ≤ n ∧ n ≤ 16) (h0 : 97 ≤ sat s 0 ∧ sat s 0 ≤ 122) (h2 : ∀ j, j < n → (97 ≤ sat s j ∧ sat s j ≤ 122) ∨ (48 ≤ sat s j ∧ sat s j ≤ 57)) : isName s = true := by
  have hk : nameOk s := ⟨by omega, by omega, by omega, fun j hj => by
    have := h2 j (by omega)
    unfold nameCh
    omega⟩
  unfold isName
  simp [hk]
theorem line_valid : Valid lineC where
  len := by decide
  rg := by decide
  ord := fun i hi => by
    obtain rfl : i = 0 := by have : i + 1 < 2 := hi; omega
    decide
  first := rfl
  last := rfl
theorem one_ok : prfE pOne = 0 := by
  have n1 : isName pOne.nm = true := name_is 2 rfl (by omega) (by decide) (by decide)
  have n2 : isName (pOne.inks.getD 0 dB) = true := name_is 5 rfl (by omega) (by decide) (by decide)
  have n3 : namesE pOne.inks = 0 := by
    show nmE pOne.inks 0 = 0
    unfold nmE
    rw [if_pos n2, if_neg]
    rintro ⟨j, hj, _⟩
    omega
  have n4 : fstE (crE pOne.cs) pOne.cs.length = 0 := by
    show crE pOne.cs 0 = 0
    exact check_valid line_valid
  have n5 : chkE pOne.a pOne.b pOne.c pOne.v = 0 := by decide
  have n6 : fstE (lbE pOne.v) (pOne.v.length / 3) = 0 := by decide
  unfold prfE
  rw [n1, n3, n4, n5, n6]
  decide
theorem raw_line {x : Int} (h : 0 ≤ x ∧ x ≤ 65280) : raw lineC x = x := by
  have e : raw lineC x = 0 + near ((65280 - 0) * (x - 0)) (65280 - 0) := rfl
  rw [e, Int.zero_add, Int.sub_zero, Int.sub_zero, Int.mul_comm, near_full (by omega)]
/-- The value between two nodes. -/
theorem graw_two {vals : List Int} {out o x : Nat} (h : x ≤ 65280) : graw vals out 2 65280 o [x] = ((65280 - x : Nat) : Int) * vals.getD o 0 + (x : Int) * vals.getD (out + o) 0 := by
  unfold graw
  have e : sumN (fun t => gnode vals out 2 o ([x].map fun x => (x + t) / 65280)) ((65280 - x) + x) = sumN (fun t => gnode vals out 2 o ([x].map fun x => (x + t) / 65280)) (65280 - x) + sumN (fun i => (fun t => gnode vals out 2 o ([x].map fun x => (x + t) / 65280)) (65280 - x + i)) x := sumN_add
  rw [show 65280 - x + x = 65280 by omega] at e
  rw [e, sumN_const (c := vals.getD o 0) (fun t ht => ?_), sumN_const (c := vals.getD (out + o) 0) (fun t ht => ?_)]
  · show gnode vals out 2 o [(x + (65280 - x + t)) / 65280] = _
    rw [show x + (65280 - x + t) = 65280 + t by omega, Nat.add_div_left _ (by omega), Nat.div_eq_of_lt (show t < 65280 by omega)]
    show vals.getD ((0 * 2 + 1) * out + o) 0 = _
    simp
  · show gnode vals out 2 o [(x + t) / 65280] = _
    rw [Nat.div_eq_of_lt (by omega)]
    show vals.getD ((0 * 2 + 0) * out + o) 0 = _
    simp
theorem one_prf : PrfOk pOne 1 2 := by
  obtain ⟨n, s, h⟩ := prfE_ok one_ok
  obtain rfl : n = 1 := by have := h.il; exact this.symm
  obtain rfl : s = 2 := by have h2 : (2 : Int) = (s : Nat) := h.ec; omega
  exact h
/-- The colour of a tone. -/
def oneV (t o : Nat) : Int := near (((65280 - 256 * t : Nat) : Int) * pOne.v.getD o 0 + ((256 * t : Nat) : Int) * pOne.v.getD (3 + o) 0) 65280
theorem one_col {t o : Nat} (ht : t ≤ 255) : pcol pOne 1 2 [t] o = oneV t o := by
  have e : fnL pOne [t] 1 = [256 * t] := by
    show [fnN pOne [t] 0] = [256 * t]
    have : fnN pOne [t] 0 = 256 * t := by
      show (raw lineC (256 * ((t : Nat) : Int))).toNat = 256 * t
      rw [raw_line (by omega)]
      omega
    rw [this]
  unfold pcol
  rw [e]
  show near (graw pOne.v 3 2 65280 o [256 * t]) ((65280 : Nat) : Int) = _
  rw [graw_two (by omega)]
  rfl
def oneD (t : Nat) : Int := far (oneV t 0) (oneV t 1) (oneV t 2) 6000 50 (-50)
theorem one_near : ∀ j : Fin 52, 6086 ≤ oneD (j.1 * 5) ∧ (oneD (j.1 * 5) = 6086 → 25 ≤ j.1) := by decide
def aOne : Ask := ⟨6000, 50, -50, 5, 255, [0], [255]⟩
theorem one_c : TC R Try.prog K2_one_f [] [] (fun v X => v = .agg (encP pOne) ∧ X = []) := by
  refine tc0 env K2_one_s (by rfl) ?_
  dsimp only [K2_one_c]
  repeat' (first
    | ((with_reducible refine TOps.any ?_); refine TOps.callV env (by rfl) (by rfl) (by rfl) (line_c) ?_)
    | ((with_reducible refine TDr.any ?_); refine TDr.callN env (by first | rfl | assumption) (by rfl) (by rfl) ?_ (line_c) (by rfl) (by rfl) ?_)
    | ((with_reducible refine TDr.any ?_); refine TDr.callE env (by first | rfl | assumption) (by rfl) (by rfl) ?_ (line_c) (by rfl) (by rfl) ?_)
    | ((with_reducible refine Tw.retI ?_); refine Tw.frz env 1 (by rfl) (by rfl) (by rfl) ?_ ?_ (Tw.frz env 2 (by rfl) (by rfl) (by rfl) ?_ ?_ (Tw.frz env 3 (by rfl) (by rfl) (by rfl) ?_ ?_ (Tw.ret ?_))))
    | refine GZp_i_2i_L2iJ ?_ ?_ ?_ ?_ ?_ ?_ ?_ ?_
    | with_reducible first | exact BzZq.mk | refine Tw.ret ?_ | refine ImZq.i fun h => ?_ | refine IkZq.i fun hk => ?_)
  exact ⟨rfl, rfl, rfl⟩
theorem one_ask : askE 1 aOne = 0 := by
  have e : ∀ l : List Int, l = [0] ∨ l = [255] → tonesE l (1 : Nat) = 0 := fun l h => tonesE_ok.2 (by
    rcases h with rfl | rfl
    · exact ⟨rfl, fun i hi => by obtain rfl : i = 0 := by have : i < 1 := hi; omega
                                 exact ⟨by decide, by decide⟩⟩
    · exact ⟨rfl, fun i hi => by obtain rfl : i = 0 := by have : i < 1 := hi; omega
                                 exact ⟨by decide, by decide⟩⟩)
  unfold askE
  rw [e aOne.lo (.inl rfl), e aOne.hi (.inr rfl)]
  decide
theorem one_best {ys : List Nat} (h : isBest (boxOf pOne aOne 1 2) ys) : ys = [125] ∧ sdst (boxOf pOne aOne 1 2) ys = 6086 := by
  obtain ⟨c, all⟩ := h
  have len : ∀ zs : List Nat, zs.length = 1 → ∃ t, zs = [t] := fun zs h => by
    match zs, h with
    | [t], _ => exact ⟨t, rfl⟩
  obtain ⟨t, rfl⟩ := len ys c.1
  have sd : ∀ t, t ≤ 255 → sdst (boxOf pOne aOne 1 2) [t] = oneD t := fun t ht => by
    show far (pcol pOne 1 2 [t] 0) (pcol pOne 1 2 [t] 1) (pcol pOne 1 2 [t] 2) 6000 50 (-50) = oneD t
    rw [one_col ht, one_col ht, one_col ht]
    rfl
  obtain ⟨j, j1, j2, j3⟩ := c.2.1 0 (Nat.one_pos)
  have j2 : j ≤ 51 := j2
  have j3 : t = j * 5 := j3
  subst j3
  have c2 : cand (boxOf pOne aOne 1 2) (boxOf pOne aOne 1 2).F (boxOf pOne aOne 1 2).T [125] := ⟨rfl, fun k hk => by
    obtain rfl : k = 0 := by have : k < 1 := hk; omega
    exact ⟨25, by decide, by decide, rfl⟩, by decide⟩
  have d2 : sdst (boxOf pOne aOne 1 2) [125] = 6086 := by rw [sd 125 (by omega)]; decide
  have n1 := one_near ⟨j, by omega⟩
  have a1 := all _ c2
  rw [sd _ (by omega), d2] at a1
  dsimp only at n1
  have e : oneD (j * 5) = 6086 := by omega
  have j25 := n1.2 e
  have ht : ¬ prec 1 [125] [j * 5] := by
    rcases a1 with a1 | ⟨_, a1⟩
    · omega
    · exact a1
  have : j = 25 := by
    refine Nat.le_antisymm (Nat.not_lt.1 fun hlt => ht ⟨0, by omega, fun i hi => by omega, ?_⟩) j25
    show 125 < j * 5
    omega
  subst this
  exact ⟨rfl, d2⟩
end Go.Proofs.Ytkapjajlkpepmaa
