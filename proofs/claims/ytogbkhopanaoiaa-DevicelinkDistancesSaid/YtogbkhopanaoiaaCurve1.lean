/- Merged: Lists Fst Num Ref1 Near Curve1. -/
import Derived.Test.YtogbkhopanaoiaaLiteTP
import Derived.Test.YtogbkhopanaoiaaXDevicelinkDistances0
import Derived.Test.YtogbkhopanaoiaaGo
namespace Go.Proofs.Ytogbkhopanaoiaa
open Go Go.Lite
set_option linter.unusedVariables false
set_option linter.unusedSimpArgs false
set_option maxRecDepth 100000
set_option maxHeartbeats 4000000

theorem ext_getD {α : Type} (d : α) {a b : List α} (hl : a.length = b.length) (h : ∀ i, i < a.length → a.getD i d = b.getD i d) : a = b :=
  List.ext_getElem hl fun j h1 h2 => by
    have := h j h1
    rwa [getD_get d h1, getD_get d h2] at this
theorem getD_mem {α : Type} {a : List α} {i : Nat} {d : α} (h : i < a.length) : a.getD i d ∈ a := by rw [getD_get d h]; exact List.getElem_mem h
theorem mem_getD {α : Type} {a : List α} {x d : α} (h : x ∈ a) : ∃ i, i < a.length ∧ a.getD i d = x := by
  obtain ⟨i, hi, rfl⟩ := List.getElem_of_mem h
  exact ⟨i, hi, getD_get d hi⟩
/-- The list of the first n values of f. -/
def tab {α : Type} (n : Nat) (f : Nat → α) : List α := (List.range n).map f
theorem tab_len {α : Type} {n : Nat} {f : Nat → α} : (tab n f).length = n := by simp [tab]
theorem tab_get {α : Type} {n i : Nat} {f : Nat → α} {d : α} (h : i < n) : (tab n f).getD i d = f i := by
  rw [List.getD_eq_getElem?_getD, tab, List.getElem?_map, List.getElem?_range h]; rfl
theorem is_tab {α : Type} {n : Nat} {f : Nat → α} (d : α) {l : List α} (h : l.length = n) (hf : ∀ i, i < n → l.getD i d = f i) : l = tab n f :=
  ext_getD d (by rw [h, tab_len]) fun i hi => by rw [hf i (by omega), tab_get (by omega)]

theorem cut_tab {α : Type} {n : Nat} {f : Nat → α} : cut (tab n f) 0 n = tab n f := cut_all tab_len.symm

/-- The sum of f over the first n numbers. -/
def sumN (f : Nat → Int) : Nat → Int
  | 0 => 0
  | n + 1 => sumN f n + f n
theorem sumN_congr {f g : Nat → Int} : ∀ {n : Nat}, (∀ i, i < n → f i = g i) → sumN f n = sumN g n
  | 0, _ => rfl
  | n + 1, h => by simp only [sumN]; rw [sumN_congr fun i hi => h i (by omega), h n (by omega)]
theorem sumN_add {f : Nat → Int} {m : Nat} : ∀ {n : Nat}, sumN f (m + n) = sumN f m + sumN (fun i => f (m + i)) n
  | 0 => by simp [sumN]
  | n + 1 => by rw [← Nat.add_assoc]; simp only [sumN]; rw [sumN_add]; omega
theorem sumN_le {f g : Nat → Int} : ∀ {n : Nat}, (∀ i, i < n → f i ≤ g i) → sumN f n ≤ sumN g n
  | 0, _ => Int.le_refl _
  | n + 1, h => by simp only [sumN]; have := sumN_le (n := n) fun i hi => h i (by omega); have := h n (by omega); omega
theorem sumN_bd {f : Nat → Int} {k : Int} : ∀ {n : Nat}, (∀ i, i < n → 0 ≤ f i ∧ f i ≤ k) → 0 ≤ sumN f n ∧ sumN f n ≤ k * n
  | 0, _ => by simp [sumN]
  | n + 1, h => by
    have := sumN_bd (n := n) fun i hi => h i (by omega)
    have h1 := h n (by omega)
    simp only [sumN]
    have e : k * ((n + 1 : Nat) : Int) = k * n + k := by rw [Int.natCast_add, Int.mul_add]; simp
    omega
theorem sumN_shift {f : Nat → Int} : ∀ {n : Nat}, sumN f (n + 1) = f 0 + sumN (fun i => f (i + 1)) n
  | 0 => by simp [sumN]
  | n + 1 => by rw [sumN, sumN_shift]; simp only [sumN]; omega
theorem sumN_rev {f : Nat → Int} : ∀ {n : Nat}, sumN (fun i => f (n - 1 - i)) n = sumN f n
  | 0 => rfl
  | n + 1 => by
    rw [sumN_shift, sumN_congr (g := fun i => f (n - 1 - i)) fun i hi => by rw [show n + 1 - 1 - (i + 1) = n - 1 - i by omega], sumN_rev, sumN]
    simp only [Nat.add_sub_cancel, Nat.sub_zero]; omega
/-- The first k of n values of f; zeros behind them. -/
def ptab (n k : Nat) (f : Nat → Int) : List Int := tab n fun i => if i < k then f i else 0
theorem ptab_len {n k : Nat} {f : Nat → Int} : (ptab n k f).length = n := tab_len
theorem ptab_zero {n : Nat} {f : Nat → Int} : ptab n 0 f = List.replicate n 0 := by
  refine List.ext_getElem (by simp [ptab, tab]) fun j h1 h2 => by simp [ptab, tab]
theorem ptab_all {n : Nat} {f : Nat → Int} : ptab n n f = tab n f :=
  List.map_congr_left fun i hi => if_pos (by simpa using hi)
theorem ptab_set {n k : Nat} {f : Nat → Int} : (ptab n k f).set k (f k) = ptab n (k + 1) f := by
  refine List.ext_getElem (by simp [ptab, tab]) fun j h1 h2 => ?_
  rw [List.getElem_set]
  simp only [ptab, tab, List.getElem_map, List.getElem_range]
  by_cases e : k = j
  · subst e; rw [if_pos rfl, if_pos (by omega)]
  · rw [if_neg e]
    by_cases h : j < k
    · rw [if_pos h, if_pos (by omega)]
    · rw [if_neg h, if_neg (by omega)]
end Go.Proofs.Ytogbkhopanaoiaa
namespace Go.Proofs.Ytogbkhopanaoiaa
open Go Go.Lite
set_option linter.unusedVariables false
set_option linter.unusedSimpArgs false
set_option maxRecDepth 100000
set_option maxHeartbeats 4000000

def fstE (f : Nat → Int) : Nat → Int
  | 0 => 0
  | n + 1 => if fstE f n ≠ 0 then fstE f n else f n
theorem fstE_zero {f : Nat → Int} : ∀ {n : Nat}, fstE f n = 0 ↔ ∀ j, j < n → f j = 0
  | 0 => ⟨fun _ j hj => by omega, fun _ => rfl⟩
  | n + 1 => by
    simp only [fstE]
    by_cases h : fstE f n = 0
    · rw [if_neg (by simpa using h)]
      constructor
      · intro h2 j hj
        rcases Nat.lt_or_ge j n with h3 | h3
        · exact fstE_zero.1 h j h3
        · obtain rfl : j = n := by omega
          exact h2
      · intro h2; exact h2 n (by omega)
    · rw [if_pos h]
      constructor
      · intro h2; exact absurd h2 h
      · intro h2; exact fstE_zero.2 fun j hj => h2 j (by omega)
theorem fstE_at {f : Nat → Int} {i : Nat} (h0 : ∀ j, j < i → f j = 0) (h1 : f i ≠ 0) : ∀ {n : Nat}, i < n → fstE f n = f i
  | 0, h => by omega
  | n + 1, h => by
    simp only [fstE]
    rcases Nat.lt_or_ge i n with h3 | h3
    · rw [fstE_at h0 h1 h3, if_pos h1]
    · obtain rfl : i = n := by omega
      rw [if_neg (by simpa using fstE_zero.2 h0)]
end Go.Proofs.Ytogbkhopanaoiaa
namespace Go.Proofs.Ytogbkhopanaoiaa
open Go Go.Lite
set_option linter.unusedVariables false
set_option linter.unusedSimpArgs false
set_option maxRecDepth 100000
set_option maxHeartbeats 4000000

/-- The greatest number up to n with a property, or 0. -/
def most (p : Nat → Bool) : Nat → Nat
  | 0 => 0
  | k + 1 => if p (k + 1) then k + 1 else most p k
theorem sq_le {a b : Int} (h : 0 ≤ a) (h2 : a ≤ b) : a * a ≤ b * b := Int.mul_le_mul h2 h2 h (by omega)
theorem sq_bd {x k : Int} (h : -k ≤ x ∧ x ≤ k) : 0 ≤ x * x ∧ x * x ≤ k * k := by
  rcases Int.le_total 0 x with h' | h'
  · exact ⟨Int.mul_nonneg h' h', sq_le h' h.2⟩
  · have := sq_le (a := -x) (b := k) (by omega) (by omega)
    rw [Int.neg_mul_neg] at this
    exact ⟨by rw [← Int.neg_mul_neg]; exact Int.mul_nonneg (by omega) (by omega), this⟩

/-- The root of n, rounded down. -/
def rt (n : Int) : Int := (most (fun r => decide ((r : Int) * r ≤ n)) 1048575 : Nat)
end Go.Proofs.Ytogbkhopanaoiaa
namespace Go.Proofs.Ytogbkhopanaoiaa
open Go Go.Lite
set_option linter.unusedVariables false
set_option linter.unusedSimpArgs false
set_option maxRecDepth 100000
set_option maxHeartbeats 4000000
-- @simp rdi

def labOk (l a b : Int) : Prop := 0 ≤ l ∧ l ≤ 10000 ∧ -12800 ≤ a ∧ a ≤ 12800 ∧ -12800 ≤ b ∧ b ≤ 12800
instance (l a b : Int) : Decidable (labOk l a b) := by unfold labOk; infer_instance
def labE (l a b : Int) : Int := if labOk l a b then 0 else 3
theorem labE_ok {l a b : Int} : labE l a b = 0 ↔ labOk l a b := by unfold labE; split <;> simp_all

theorem refCheck_c (l a b : Int) : TC R Try.prog refspace_Check_f [.agg [.int .i64 l, .int .i64 a, .int .i64 b]] [] (fun v X => v = .int .i64 (labE l a b) ∧ X = []) := by
  refine tc0 env refspace_Check_s (by rfl) ?_
  dsimp only [refspace_Check_c]
  repeat' (first
    | refine GZ_i ?_ ?_ ?_ ?_ ?_ ?_ ?_ ?_
    | with_reducible first | exact BzZq.mk | refine Tw.ret ?_ | refine ImZq.i fun h => ?_ | refine IkZq.i fun hk => ?_)
  · exact ⟨rfl, by rw [labE, if_neg (by unfold labOk; omega)], rfl⟩
  · exact ⟨rfl, by rw [labE, if_pos (by unfold labOk; omega)], rfl⟩

def far (l a b l' a' b' : Int) : Int := (l - l') * (l - l') + (a - a') * (a - a') + (b - b') * (b - b')
theorem far_c (l a b l' a' b' : Int) (h : Due (labOk l a b)) (h' : Due (labOk l' a' b')) : TC R Try.prog refspace_Far_f [.agg [.int .i64 l, .int .i64 a, .int .i64 b], .agg [.int .i64 l', .int .i64 a', .int .i64 b']] [] (fun v X => v = .int .i64 (far l a b l' a' b') ∧ X = []) := by
  dsimp only [Due, labOk] at h h'
  have h1 := sq_bd (x := l - l') (k := 10000) (by omega)
  have h2 := sq_bd (x := a - a') (k := 25600) (by omega)
  have h3 := sq_bd (x := b - b') (k := 25600) (by omega)
  refine tc0 env refspace_Far_s (by rfl) ?_
  dsimp only [refspace_Far_c]
  repeat' (first
    | refine GZ_i ?_ ?_ ?_ ?_ ?_ ?_ ?_ ?_
    | with_reducible first | exact BzZq.mk | refine Tw.ret ?_ | refine ImZq.i fun h => ?_ | refine IkZq.i fun hk => ?_)
  exact ⟨rfl, rfl, rfl⟩

theorem square_c (l a b l' a' b' : Int) : TC R Try.prog refspace_Square_f [.agg [.int .i64 l, .int .i64 a, .int .i64 b], .agg [.int .i64 l', .int .i64 a', .int .i64 b']] []
    (fun v X => v = .tup [.int .i64 (if labOk l a b ∧ labOk l' a' b' then far l a b l' a' b' else 0), .int .i64 (if labOk l a b ∧ labOk l' a' b' then 0 else 3)] ∧ X = []) := by
  refine tc0 env refspace_Square_s (by rfl) ?_
  dsimp only [refspace_Square_c]
  repeat' (first
    | ((with_reducible refine TOps.any ?_); refine TOps.callV env (by rfl) (by rfl) (by rfl) (refCheck_c _ _ _) ?_)
    | ((with_reducible refine TOps.any ?_); refine TOps.callV env (by rfl) (by rfl) (by rfl) (far_c _ _ _ _ _ _ (labE_ok.1 (by assumption)) (labE_ok.1 (by assumption))) ?_)
    | refine GZ_i ?_ ?_ ?_ ?_ ?_ ?_ ?_ ?_
    | with_reducible first | exact BzZq.mk | refine Tw.ret ?_ | refine ImZq.i fun h => ?_ | refine IkZq.i fun hk => ?_)
  · have : ¬ labOk l a b := fun hh => h (labE_ok.2 hh)
    refine ⟨rfl, ?_, rfl⟩; rw [if_neg (fun hh => this hh.1), if_neg (fun hh => this hh.1), labE, if_neg this]
  · have : ¬ labOk l' a' b' := fun hh => h (labE_ok.2 hh)
    refine ⟨rfl, ?_, rfl⟩; rw [if_neg (fun hh => this hh.2), if_neg (fun hh => this hh.2), labE, if_neg this]
  · have h1 : labOk l a b := labE_ok.1 (by assumption)
    have h2 : labOk l' a' b' := labE_ok.1 (by assumption)
    refine ⟨rfl, ?_, rfl⟩; rw [if_pos ⟨h1, h2⟩, if_pos ⟨h1, h2⟩]

end Go.Proofs.Ytogbkhopanaoiaa
namespace Go.Proofs.Ytogbkhopanaoiaa
open Go Go.Lite
set_option linter.unusedVariables false
set_option linter.unusedSimpArgs false
set_option maxRecDepth 100000
set_option maxHeartbeats 4000000

def near (n d : Int) : Int := (2 * n + d) / (2 * d)

theorem nearest_c (n d : Int) (h : Due (0 < d ∧ d ≤ 1000000000000000000 ∧ -1000000000000000000 ≤ n ∧ n ≤ 1000000000000000000)) : TC R Try.prog curve_Nearest_f [.int .i64 n, .int .i64 d] [] (fun v X => v = .int .i64 (near n d) ∧ X = []) := by
  dsimp only [Due] at h
  have hd : 0 < 2 * d := by omega
  have hq := quo_bd (a := 2 * n + d) hd
  refine tc env curve_Nearest_s (by rfl) ?_
  dsimp only [curve_Nearest_c]
  repeat' (first
    | refine GZ ?_ ?_ ?_ ?_ ?_ ?_ ?_ ?_
    | with_reducible first | exact BzZq.mk | refine Tw.ret ?_ | refine ImZq.i fun h => ?_ | refine IkZq.i fun hk => ?_)
  · rw [quo_fl1 hd h]; exact ⟨rfl, rfl⟩
  · rw [quo_fl hd h]; exact ⟨rfl, rfl⟩
end Go.Proofs.Ytogbkhopanaoiaa
namespace Go.Proofs.Ytogbkhopanaoiaa
open Go Go.Lite
set_option linter.unusedVariables false
set_option linter.unusedSimpArgs false
set_option maxRecDepth 100000
set_option maxHeartbeats 4000000

-- @simp rd2i


/-- What Check says from point i on. -/
def scan (c : List (Int × Int)) (i : Nat) : Int :=
  if h : i < c.length then
    if (c.getD i (0, 0)).1 < 0 ∨ 65280 < (c.getD i (0, 0)).1 ∨ (c.getD i (0, 0)).2 < 0 ∨ 65280 < (c.getD i (0, 0)).2 then 3
    else if 0 < i ∧ ((c.getD i (0, 0)).1 ≤ (c.getD (i - 1) (0, 0)).1 ∨ (c.getD i (0, 0)).2 < (c.getD (i - 1) (0, 0)).2) then 18
    else scan c (i + 1)
  else if (c.getD 0 (0, 0)).1 ≠ 0 ∨ (c.getD (c.length - 1) (0, 0)).1 ≠ 65280 then 4 else 0
  termination_by c.length - i
def check (c : List (Int × Int)) : Int := if 33 < c.length then 2 else if c.length < 2 then 1 else scan c 0

theorem check_c (c : List (Int × Int)) : TC R Try.prog curve_Check_f [.agg [.lst E2i c]] [] (fun v X => v = .int .i64 (check c) ∧ X = []) := by
  refine tc0 env curve_Check_s (by rfl) ?_
  dsimp only [curve_Check_c]
  repeat' (first
    | refine GZ_2i ?_ ?_ ?_ ?_ ?_ ?_ ?_ ?_
    | with_reducible first | exact BzZq.mk | refine Tw.ret ?_ | refine ImZq.i fun h => ?_ | refine IkZq.i fun hk => ?_)
  · exact ⟨rfl, by rw [check, if_pos (by omega)], rfl⟩
  · exact ⟨rfl, by rw [check, if_neg (by omega), if_pos (by omega)], rfl⟩
  have hc : check c = scan c 0 := by rw [check, if_neg (by omega), if_neg (by omega)]
  refine Tw.loopK [1, 16, 17] (fun i : Nat => i ≤ c.length ∧ scan c 0 = scan c i) (fun i => c.length - i) (fun i => [(18, .int .i64 i)]) (fun _ => [some (.cells [.lst E2i c])]) ⟨0, ⟨by omega, rfl⟩, TWk.fcanon env [some 0] (by rfl) ?_⟩ (fun i hi => ?_)
  repeat' (first
    | refine ⟨i+1, ⟨?_, ?_⟩, ?_, TWk.fcanon env [some 0] (by rfl) ?_⟩
    | with_reducible first | refine Tw.seq ?_ | refine Tw.reg ?_ | refine Tw.block ?_ | refine Tw.scope ?_ | refine Tw.skip ?_ | refine Tw.exit ?_ | refine Tw.ret ?_ | refine seqN ?_ | refine seqR ?_ | refine seqE ?_ | refine rndN ?_ | refine blkN ?_ | refine blkR ?_ | refine blkE1 ?_ | refine blkE0 (by kernel_rfl) ?_ | refine scpN ?_ | refine scpR ?_ | refine scpE ?_ | refine TOps.nil ?_ | exact Conj.nil | refine Conj.cons rfl ?_ | refine Conj.same ?_ | refine Conj.ask ?_ ?_ | refine Tw.regd env ?_ | refine TDr.nil ⟨by kernel_rfl, ?_⟩
    | ((with_reducible refine TOps.any ?_); first | refine TOps.frunP env (by rfl) (by rfl) ?_ ?_ | (refine TOps.known (by rfl) ?_; refine TOps.strip env (by rfl) (by rfl) ?_ ?_) | refine TOps.on (by rfl) (by rfl) ?_)
    | ((with_reducible refine TDr.any ?_); refine TDr.frunP env (by rfl) (by rfl) ?_ ?_)
    | ((with_reducible refine Tw.any ?_); first | refine Tw.condT (by rfl) ?_ | refine Tw.condF (by rfl) ?_)
    | ((first | ((with_reducible refine TOps.any ?_); (fail_if_success refine TOps.known (by rfl) ?_); refine TOps.ask (by rfl) (fun h => ?_) (fun h => ?_)) | ((with_reducible refine TDr.any ?_); (fail_if_success refine TDr.known (by first | rfl | assumption) ?_); refine TDr.ask (by rfl) (fun h hk => ?_) (fun h => ?_)) | ((with_reducible refine Tw.any ?_); refine Tw.cond (by rfl) (fun h => ?_) (fun h => ?_))) <;> (try simp only [goS] at h) <;> (try simp only [rd2i, Int.toNat_natCast, Nat.add_zero] at h))
    | ((with_reducible refine tret.any ?_); first | refine tret.ok (by rfl) ?_ | refine tret.okN (by rfl) ?_)
    | ((with_reducible refine Due.mk ?_); (first | with_reducible rfl | omega | assumption | decide | ((try simp only [goS] at *) <;> (try intro h) <;> (try intro h') <;> (try simp only [goS] at *) <;> (try simp only [rd2i, Int.toNat_natCast, Nat.add_zero] at *) <;> (try simp only [rng]) <;> (first | assumption | omega)) | (exact due_app0 (by omega)) | (exact due_app (by omega)) | (intros; simp; done) | (intros; simp; omega)))
    | with_reducible refine Due.mk ?_
    | omega)
  · exact ⟨rfl, by rw [hc, hi.2, scan, dif_pos (by omega), if_pos (by omega)], rfl⟩
  · rw [show ((i : Int) - 1).toNat = i - 1 by omega] at h
    exact ⟨rfl, by rw [hc, hi.2, scan, dif_pos (by omega), if_neg (by omega), if_pos (by omega)], rfl⟩
  · rw [show ((i : Int) - 1).toNat = i - 1 by omega] at h
    rw [hi.2, scan, dif_pos (by omega), if_neg (by omega), if_neg (by omega)]
  repeat' (first
    | refine GZ_2i ?_ ?_ ?_ ?_ ?_ ?_ ?_ ?_
    | with_reducible first | exact BzZq.mk | refine Tw.ret ?_ | refine ImZq.i fun h => ?_ | refine IkZq.i fun hk => ?_)
  · rw [show ((c.length : Int) - 1).toNat = c.length - 1 by omega] at h
    exact ⟨rfl, by rw [hc, hi.2, scan, dif_neg (by omega), if_pos (by omega)], rfl⟩
  · rw [show ((c.length : Int) - 1).toNat = c.length - 1 by omega] at h
    exact ⟨rfl, by rw [hc, hi.2, scan, dif_neg (by omega), if_neg (by omega)], rfl⟩

/-- What Check answers 0 to. -/
structure Valid (c : List (Int × Int)) : Prop where
  len : 2 ≤ c.length ∧ c.length ≤ 33
  rg : ∀ i, i < c.length → 0 ≤ (c.getD i (0, 0)).1 ∧ (c.getD i (0, 0)).1 ≤ 65280 ∧ 0 ≤ (c.getD i (0, 0)).2 ∧ (c.getD i (0, 0)).2 ≤ 65280
  ord : ∀ i, i + 1 < c.length → (c.getD i (0, 0)).1 < (c.getD (i + 1) (0, 0)).1 ∧ (c.getD i (0, 0)).2 ≤ (c.getD (i + 1) (0, 0)).2
  first : (c.getD 0 (0, 0)).1 = 0
  last : (c.getD (c.length - 1) (0, 0)).1 = 65280

theorem scan_ok (c : List (Int × Int)) (n : Nat) : ∀ i, c.length - i = n → scan c i = 0 → (∀ j, i ≤ j → j < c.length → 0 ≤ (c.getD j (0, 0)).1 ∧ (c.getD j (0, 0)).1 ≤ 65280 ∧ 0 ≤ (c.getD j (0, 0)).2 ∧ (c.getD j (0, 0)).2 ≤ 65280) ∧
    (∀ j, i ≤ j → 0 < j → j < c.length → (c.getD (j - 1) (0, 0)).1 < (c.getD j (0, 0)).1 ∧ (c.getD (j - 1) (0, 0)).2 ≤ (c.getD j (0, 0)).2) ∧ (c.getD 0 (0, 0)).1 = 0 ∧ (c.getD (c.length - 1) (0, 0)).1 = 65280 := by
  induction n with
  | zero =>
    intro i hn h
    rw [scan, dif_neg (by omega)] at h
    split at h
    · cases h
    · exact ⟨fun j h1 h2 => by omega, fun j h1 h2 h3 => by omega, by omega, by omega⟩
  | succ n ih =>
    intro i hn h
    rw [scan, dif_pos (by omega)] at h
    split at h
    · cases h
    · rename_i h1
      split at h
      · cases h
      · rename_i h2
        obtain ⟨k1, k2, k3, k4⟩ := ih (i + 1) (by omega) h
        refine ⟨fun j hj hl => ?_, fun j hj h0 hl => ?_, k3, k4⟩
        · by_cases e : j = i
          · subst e; omega
          · exact k1 j (by omega) hl
        · by_cases e : j = i
          · subst e; omega
          · exact k2 j (by omega) h0 hl

theorem check_ok {c : List (Int × Int)} (h : check c = 0) : Valid c := by
  unfold check at h
  split at h
  · cases h
  · split at h
    · cases h
    · obtain ⟨k1, k2, k3, k4⟩ := scan_ok c _ 0 rfl h
      exact ⟨by omega, fun i hi => k1 i (by omega) hi, fun i hi => k2 (i + 1) (by omega) (by omega) hi, k3, k4⟩
end Go.Proofs.Ytogbkhopanaoiaa
