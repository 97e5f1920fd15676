/- Merged: Lists GridM Near Grid1. -/
import Derived.Test.YtkapjajlkpepmaaLiteTP
import Derived.Test.YtkapjajlkpepmaaXInverseBest0
import Derived.Test.YtkapjajlkpepmaaGo
namespace Go.Proofs.Ytkapjajlkpepmaa
open Go Go.Lite
set_option linter.unusedVariables false
set_option linter.unusedSimpArgs false
set_option maxRecDepth 100000
set_option maxHeartbeats 4000000

theorem getD_set_eq {α : Type} {l : List α} {i : Nat} {v d : α} (h : i < l.length) : (l.set i v).getD i d = v := by
  rw [List.getD_eq_getElem?_getD, List.getElem?_set_self h]; rfl
theorem getD_set_ne {α : Type} {l : List α} {i j : Nat} {v d : α} (h : i ≠ j) : (l.set i v).getD j d = l.getD j d := by
  rw [List.getD_eq_getElem?_getD, List.getElem?_set_ne h, ← List.getD_eq_getElem?_getD]
theorem ext_getD {α : Type} (d : α) {a b : List α} (hl : a.length = b.length) (h : ∀ i, i < a.length → a.getD i d = b.getD i d) : a = b :=
  List.ext_getElem hl fun j h1 h2 => by
    have := h j h1
    rwa [getD_get d h1, getD_get d h2] at this
theorem getD_mem {α : Type} {a : List α} {i : Nat} {d : α} (h : i < a.length) : a.getD i d ∈ a := by rw [getD_get d h]; exact List.getElem_mem h
theorem mem_getD {α : Type} {a : List α} {x d : α} (h : x ∈ a) : ∃ i, i < a.length ∧ a.getD i d = x := by
  obtain ⟨i, hi, rfl⟩ := List.getElem_of_mem h
  exact ⟨i, hi, getD_get d hi⟩
/-- The list of the first n values of f. -/
def tab {α : Type} (n : Nat) (f : Nat → α) : List α := (List.range n).map f
theorem tab_len {α : Type} {n : Nat} {f : Nat → α} : (tab n f).length = n := by simp [tab]
theorem tab_get {α : Type} {n i : Nat} {f : Nat → α} {d : α} (h : i < n) : (tab n f).getD i d = f i := by
  rw [List.getD_eq_getElem?_getD, tab, List.getElem?_map, List.getElem?_range h]; rfl
theorem is_tab {α : Type} {n : Nat} {f : Nat → α} (d : α) {l : List α} (h : l.length = n) (hf : ∀ i, i < n → l.getD i d = f i) : l = tab n f :=
  ext_getD d (by rw [h, tab_len]) fun i hi => by rw [hf i (by omega), tab_get (by omega)]

/-- The sum of f over the first n numbers. -/
def sumN (f : Nat → Int) : Nat → Int
  | 0 => 0
  | n + 1 => sumN f n + f n
theorem sumN_congr {f g : Nat → Int} : ∀ {n : Nat}, (∀ i, i < n → f i = g i) → sumN f n = sumN g n
  | 0, _ => rfl
  | n + 1, h => by simp only [sumN]; rw [sumN_congr fun i hi => h i (by omega), h n (by omega)]
theorem sumN_add {f : Nat → Int} {m : Nat} : ∀ {n : Nat}, sumN f (m + n) = sumN f m + sumN (fun i => f (m + i)) n
  | 0 => by simp [sumN]
  | n + 1 => by rw [← Nat.add_assoc]; simp only [sumN]; rw [sumN_add]; omega
theorem sumN_le {f g : Nat → Int} : ∀ {n : Nat}, (∀ i, i < n → f i ≤ g i) → sumN f n ≤ sumN g n
  | 0, _ => Int.le_refl _
  | n + 1, h => by simp only [sumN]; have := sumN_le (n := n) fun i hi => h i (by omega); have := h n (by omega); omega
theorem sumN_shift {f : Nat → Int} : ∀ {n : Nat}, sumN f (n + 1) = f 0 + sumN (fun i => f (i + 1)) n
  | 0 => by simp [sumN]
  | n + 1 => by rw [sumN, sumN_shift]; simp only [sumN]; omega
theorem sumN_rev {f : Nat → Int} : ∀ {n : Nat}, sumN (fun i => f (n - 1 - i)) n = sumN f n
  | 0 => rfl
  | n + 1 => by
    rw [sumN_shift, sumN_congr (g := fun i => f (n - 1 - i)) fun i hi => by rw [show n + 1 - 1 - (i + 1) = n - 1 - i by omega], sumN_rev, sumN]
    simp only [Nat.add_sub_cancel, Nat.sub_zero]; omega
/-- The first k of n values of f; zeros behind them. -/
def ptab (n k : Nat) (f : Nat → Int) : List Int := tab n fun i => if i < k then f i else 0
theorem ptab_len {n k : Nat} {f : Nat → Int} : (ptab n k f).length = n := tab_len
theorem ptab_zero {n : Nat} {f : Nat → Int} : ptab n 0 f = List.replicate n 0 := by
  refine List.ext_getElem (by simp [ptab, tab]) fun j h1 h2 => by simp [ptab, tab]
theorem ptab_all {n : Nat} {f : Nat → Int} : ptab n n f = tab n f :=
  List.map_congr_left fun i hi => if_pos (by simpa using hi)
theorem ptab_set {n k : Nat} {f : Nat → Int} : (ptab n k f).set k (f k) = ptab n (k + 1) f := by
  refine List.ext_getElem (by simp [ptab, tab]) fun j h1 h2 => ?_
  rw [List.getElem_set]
  simp only [ptab, tab, List.getElem_map, List.getElem_range]
  by_cases e : k = j
  · subst e; rw [if_pos rfl, if_pos (by omega)]
  · rw [if_neg e]
    by_cases h : j < k
    · rw [if_pos h, if_pos (by omega)]
    · rw [if_neg h, if_neg (by omega)]
theorem ptab_get {n k i : Nat} {f : Nat → Int} (h : i < k) (hk : i < n) : (ptab n k f).getD i 0 = f i := by
  unfold ptab; rw [tab_get hk, if_pos h]
end Go.Proofs.Ytkapjajlkpepmaa
namespace Go.Proofs.Ytkapjajlkpepmaa
open Go Go.Lite
set_option linter.unusedVariables false
set_option linter.unusedSimpArgs false
set_option maxRecDepth 100000
set_option maxHeartbeats 4000000

/-- The number of a node, behind n. -/
def ndx (s : Nat) (n : Nat) : List Nat → Nat
  | [] => n
  | k :: r => ndx s (n * s + k) r
theorem ndx_snoc {s : Nat} : ∀ {l : List Nat} {n k : Nat}, ndx s n (l ++ [k]) = ndx s n l * s + k
  | [], _, _ => rfl
  | _ :: r, _, _ => ndx_snoc (l := r)
theorem ndx_lt {s : Nat} : ∀ {l : List Nat} {n : Nat}, (∀ k ∈ l, k < s) → ndx s n l < (n + 1) * s ^ l.length
  | [], n, _ => by simp [ndx]
  | k :: r, n, h => by
    have := ndx_lt (l := r) (n := n * s + k) fun j hj => h j (List.mem_cons_of_mem _ hj)
    have hk := h k (List.mem_cons_self ..)
    simp only [ndx, List.length_cons]
    refine Nat.lt_of_lt_of_le this ?_
    rw [Nat.pow_succ, Nat.mul_comm (s ^ r.length) s, ← Nat.mul_assoc]
    refine Nat.mul_le_mul_right _ ?_
    rw [Nat.add_mul, Nat.one_mul]
    omega
/-- The value o of a node. -/
def gnode (vals : List Int) (out s o : Nat) (l : List Nat) : Int := vals.getD (ndx s 0 l * out + o) 0
/-- The node of a cell that belongs to t. -/
def gc (st t x : Nat) : Nat := x / st + if t < x % st then 1 else 0
/-- The interpolated value o, multiplied by the step. -/
def graw (vals : List Int) (out s st o : Nat) (xs : List Nat) : Int := sumN (fun t => gnode vals out s o (xs.map fun x => (x + t) / st)) st
theorem gc_eq {st t x : Nat} (h : t < st) : (x + (st - 1 - t)) / st = gc st t x := by
  unfold gc
  have h1 := Nat.div_add_mod x st
  have h2 := Nat.mod_lt x (show 0 < st by omega)
  generalize x / st = q at *
  generalize x % st = r at *
  subst h1
  rw [Nat.add_assoc, Nat.mul_add_div (by omega)]
  congr 1
  split
  · exact Nat.div_eq_of_lt_le (by omega) (by omega)
  · exact Nat.div_eq_of_lt (by omega)
theorem graw_eq {vals : List Int} {out s st o : Nat} {xs : List Nat} : sumN (fun t => gnode vals out s o (xs.map (gc st t))) st = graw vals out s st o xs := by
  unfold graw
  rw [← sumN_rev (f := fun t => gnode vals out s o (xs.map fun x => (x + t) / st))]
  exact sumN_congr fun t ht => by
    congr 1
    exact List.map_congr_left fun x _ => (gc_eq ht).symm
theorem sumN_const {f : Nat → Int} {c : Int} : ∀ {n : Nat}, (∀ i, i < n → f i = c) → sumN f n = n * c
  | 0, _ => by simp [sumN]
  | n + 1, h => by
    simp only [sumN]
    rw [sumN_const fun i hi => h i (by omega), h n (by omega), Int.natCast_add, Int.add_mul]
    simp
/-- The sum over the t from a on. -/
def tail (f : Nat → Int) (st a : Nat) : Int := sumN f st - sumN f a
theorem tail_all {f : Nat → Int} {st : Nat} : tail f st 0 = sumN f st := by simp [tail, sumN]
theorem tail_none {f : Nat → Int} {st : Nat} : tail f st st = 0 := by simp [tail]
theorem tail_step {f : Nat → Int} {st a b : Nat} {c : Int} (hab : a ≤ b) (hf : ∀ t, a ≤ t → t < b → f t = c) : tail f st a = tail f st b + ((b : Int) - a) * c := by
  obtain ⟨k, rfl⟩ := Nat.exists_eq_add_of_le hab
  have h1 := sumN_add (f := f) (m := a) (n := k)
  rw [sumN_const (f := fun i => f (a + i)) (c := c) fun i hi => hf _ (by omega) (by omega)] at h1
  have h2 : ((a + k : Nat) : Int) - a = k := by omega
  unfold tail
  rw [h1, h2]
  omega
theorem sumN_abs {f : Nat → Int} {k : Int} : ∀ {n : Nat}, (∀ i, i < n → -k ≤ f i ∧ f i ≤ k) → -(k * n) ≤ sumN f n ∧ sumN f n ≤ k * n
  | 0, _ => by simp [sumN]
  | n + 1, h => by
    have := sumN_abs (n := n) fun i hi => h i (by omega)
    have h1 := h n (by omega)
    simp only [sumN]
    have e : k * ((n + 1 : Nat) : Int) = k * n + k := by rw [Int.natCast_add, Int.mul_add]; simp
    omega
theorem tail_abs {f : Nat → Int} {k : Int} {st a : Nat} (ha : a ≤ st) (h : ∀ i, i < st → -k ≤ f i ∧ f i ≤ k) : -(k * st) ≤ tail f st a ∧ tail f st a ≤ k * st := by
  obtain ⟨j, rfl⟩ := Nat.exists_eq_add_of_le ha
  have h1 := sumN_add (f := f) (m := a) (n := j)
  have h2 := sumN_abs (f := fun i => f (a + i)) (k := k) (n := j) fun i hi => h _ (by omega)
  have h3 : k * ((a + j : Nat) : Int) = k * a + k * j := by rw [Int.natCast_add, Int.mul_add]
  have h4 : 0 ≤ k * a := by
    by_cases e : a + j = 0
    · have : a = 0 := by omega
      subst this; simp
    · have := h 0 (by omega)
      exact Int.mul_nonneg (by omega) (by omega)
  unfold tail
  omega

theorem tab_set {α : Type} {n i : Nat} {f : Nat → α} {v : α} : (tab n f).set i v = tab n (fun j => if j = i then v else f j) := by
  refine List.ext_getElem (by simp [tab]) fun j h1 h2 => ?_
  simp only [tab, List.length_map, List.length_range] at h2
  rw [List.getElem_set]
  by_cases e : i = j
  · subst e; simp [tab]
  · rw [if_neg e]; simp [tab, show ¬ j = i from fun h => e h.symm]
theorem tab_congr {α : Type} {n : Nat} {f g : Nat → α} (h : ∀ i, i < n → f i = g i) : tab n f = tab n g :=
  List.map_congr_left fun i hi => h i (by simpa using hi)
theorem tab_repl {α : Type} {n : Nat} {v : α} : List.replicate n v = tab n fun _ => v := by
  refine List.ext_getElem (by simp [tab]) fun j h1 h2 => by simp [tab]
theorem tab_take {α : Type} {n m : Nat} {f : Nat → α} (h : m ≤ n) : (tab n f).take m = tab m f := by
  refine List.ext_getElem (by simp [tab]; omega) fun j h1 h2 => ?_
  simp [tab]

/-- A grid's shape is permitted. -/
structure GOk (inn out s : Nat) (vals : List Int) : Prop where
  i1 : 1 ≤ inn ∧ inn ≤ 4
  o1 : 1 ≤ out ∧ out ≤ 8
  s1 : s = 2 ∨ s = 3 ∨ s = 4 ∨ s = 5 ∨ s = 6 ∨ s = 7 ∨ s = 9
  big : s ^ inn * out ≤ 32768
  len : vals.length = s ^ inn * out
  bd : ∀ v ∈ vals, -32768 ≤ v ∧ v ≤ 65535
def gstep (s : Nat) : Nat := 65280 / (s - 1)
theorem GOk.step {inn out s : Nat} {vals : List Int} (g : GOk inn out s vals) : (s - 1) * gstep s = 65280 ∧ 8160 ≤ gstep s ∧ gstep s ≤ 65280 := by
  unfold gstep
  rcases g.s1 with rfl | rfl | rfl | rfl | rfl | rfl | rfl <;> decide
theorem gnode_bd {inn out s : Nat} {vals : List Int} (g : GOk inn out s vals) (o : Nat) (l : List Nat) : -65536 ≤ gnode vals out s o l ∧ gnode vals out s o l ≤ 65536 := by
  unfold gnode
  by_cases h : ndx s 0 l * out + o < vals.length
  · have := g.bd _ (getD_mem (d := 0) h); omega
  · rw [List.getD_eq_getElem?_getD, List.getElem?_eq_none (by omega)]; simp
theorem at_in {inn out s : Nat} {vals : List Int} (g : GOk inn out s vals) {l : List Nat} (hl : l.length = inn) (hk : ∀ k ∈ l, k < s) {o : Nat} (ho : o < out) : ndx s 0 l * out + o < vals.length ∧ ndx s 0 l < s ^ inn := by
  have := ndx_lt (n := 0) hk
  rw [hl, Nat.zero_add, Nat.one_mul] at this
  refine ⟨?_, this⟩
  rw [g.len]
  have h2 : (ndx s 0 l + 1) * out ≤ s ^ inn * out := Nat.mul_le_mul_right _ this
  rw [Nat.add_mul] at h2
  omega
end Go.Proofs.Ytkapjajlkpepmaa
namespace Go.Proofs.Ytkapjajlkpepmaa
open Go Go.Lite
set_option linter.unusedVariables false
set_option linter.unusedSimpArgs false
set_option maxRecDepth 100000
set_option maxHeartbeats 4000000

def near (n d : Int) : Int := (2 * n + d) / (2 * d)

theorem nearest_c (n d : Int) (h : Due (0 < d ∧ d ≤ 1000000000000000000 ∧ -1000000000000000000 ≤ n ∧ n ≤ 1000000000000000000)) : TC R Try.prog curve_Nearest_f [.int .i64 n, .int .i64 d] [] (fun v X => v = .int .i64 (near n d) ∧ X = []) := by
  dsimp only [Due] at h
  have hd : 0 < 2 * d := by omega
  have hq := quo_bd (a := 2 * n + d) hd
  refine tc env curve_Nearest_s (by rfl) ?_
  dsimp only [curve_Nearest_c]
  repeat' (first
    | refine GZ ?_ ?_ ?_ ?_ ?_ ?_ ?_ ?_
    | with_reducible first | exact BzZq.mk | refine Tw.ret ?_ | refine ImZq.i fun h => ?_ | refine IkZq.i fun hk => ?_)
  · rw [quo_fl1 hd h]; exact ⟨rfl, rfl⟩
  · rw [quo_fl hd h]; exact ⟨rfl, rfl⟩
end Go.Proofs.Ytkapjajlkpepmaa
namespace Go.Proofs.Ytkapjajlkpepmaa
open Go Go.Lite
set_option linter.unusedVariables false
set_option linter.unusedSimpArgs false
set_option maxRecDepth 100000
set_option maxHeartbeats 4000000
-- @simp rdi

def nz (l : List Nat) : List Int := l.map fun k : Nat => (k : Int)
theorem nz_get {l : List Nat} {i : Nat} : (nz l).getD i 0 = ((l.getD i 0 : Nat) : Int) := by
  simp only [nz, List.getD_eq_getElem?_getD, List.getElem?_map]
  cases l[i]? <;> simp
theorem TWk.re {N : Dim} {F : TF A} {H H' : TH A} (h : embH R H' = embH R H) : TWk R N F H' F H := by unfold TWk; rw [h]; exact Wk.refl _ _
theorem nz_len {l : List Nat} : (nz l).length = l.length := by simp [nz]
theorem ndx_le {s : Nat} (hs : s ≤ 9) : ∀ {l : List Nat} {n : Nat}, (∀ k ∈ l, k ≤ 9) → ndx s n l + 1 ≤ (n + 1) * 10 ^ l.length
  | [], n, _ => by simp [ndx]
  | k :: r, n, h => by
    have := ndx_le hs (l := r) (n := n * s + k) fun j hj => h j (List.mem_cons_of_mem _ hj)
    have hk := h k (List.mem_cons_self ..)
    simp only [ndx, List.length_cons]
    refine Nat.le_trans this ?_
    rw [Nat.pow_succ, Nat.mul_comm (10 ^ r.length) 10, ← Nat.mul_assoc]
    refine Nat.mul_le_mul_right _ ?_
    have : n * s ≤ n * 9 := Nat.mul_le_mul_left _ hs
    omega
theorem gat_c (inn out s : Nat) (vals : List Int) (l : List Nat) (hs : Due (s ≤ 9)) (ho : Due (out ≤ 8)) (hl : Due (l.length ≤ 4)) (hk : Due (∀ k ∈ l, k ≤ 9)) :
    TC R Try.prog grid_at_f [.pel [.int .i64 inn, .int .i64 out, .int .i64 s, .lst Ei vals], .lst Ei (nz l)] [] (fun v X => v = .int .i64 ((ndx s 0 l * out : Nat) : Int) ∧ X = []) := by
  dsimp only [Due] at hs ho hl hk
  refine tc0 env grid_at_s (by rfl) ?_
  dsimp only [grid_at_c]
  have hb : ∀ i, i ≤ l.length → ndx s 0 (l.take i) ≤ 10000 := fun i hi => by
    have := ndx_le hs (l := l.take i) (n := 0) fun k h => hk k (List.mem_of_mem_take h)
    rw [List.length_take, Nat.min_eq_left hi, Nat.zero_add, Nat.one_mul] at this
    have h2 : (10 : Nat) ^ i ≤ 10 ^ 4 := Nat.pow_le_pow_right (by omega) (by omega)
    omega
  have ll := nz_len (l := l)
  repeat' (first
    | refine GZy_i ll ?_ ?_ ?_ ?_ ?_ ?_ ?_ ?_
    | with_reducible first | exact BzZq.mk | refine Tw.ret ?_ | refine ImZq.i fun h => ?_ | refine IkZq.i fun hk => ?_)
  refine Tw.loopK [0, 8, 9] (fun i : Nat => i ≤ l.length) (fun i => l.length - i) (fun i => [(5, .int .i64 ((ndx s 0 (l.take i) : Nat) : Int)), (10, .int .i64 i)]) (fun _ => []) ⟨0, by omega, TWk.fcanon env [] (by rfl) ?_⟩ (fun i hi => ?_)
  · repeat' (first
      | with_reducible first | exact Conj.nil | refine Conj.cons rfl ?_ | refine Conj.same ?_ | refine Conj.ask ?_ ?_
      | ((with_reducible refine Due.mk ?_); (first | with_reducible rfl | omega | assumption | decide | ((try simp only [goS] at *) <;> (try intro h) <;> (try intro h') <;> (try simp only [goS] at *) <;> (try simp only [rdi, Int.toNat_natCast, Nat.add_zero] at *) <;> (try simp only [rng]) <;> (first | assumption | omega)) | (exact due_app0 (by omega)) | (exact due_app (by omega)) | (intros; simp; done) | (intros; simp; omega)))
      | with_reducible refine Due.mk ?_
      | omega)
  have h0 := hb i hi
  rcases Nat.lt_or_ge i l.length with hi | hi
  · have h1 := hb (i + 1) (by omega)
    have e : l.take (i + 1) = l.take i ++ [l.getD i 0] := by
      rw [List.take_succ_eq_append_getElem hi, getD_get _ hi]
    have e2 : ndx s 0 (l.take (i + 1)) = ndx s 0 (l.take i) * s + l.getD i 0 := by rw [e, ndx_snoc]
    have e3 : (ndx s 0 (l.take i) : Int) * s = ((ndx s 0 (l.take i) * s : Nat) : Int) := by simp
    have e4 := nz_get (l := l) (i := i)
    have e5 : (ndx s 0 (l.take (i + 1)) : Int) = (ndx s 0 (l.take i) : Int) * s + ((l.getD i 0 : Nat) : Int) := by rw [e2]; simp
    generalize ndx s 0 (l.take i) * s = n0 at *
    generalize ndx s 0 (l.take i) = n at *
    repeat' (first
      | refine GZy_i (And.intro ll (And.intro e3 e4)) ?_ ?_ ?_ ?_ ?_ ?_ ?_ ?_
      | with_reducible first | exact BzZq.mk | refine Tw.ret ?_ | refine ImZq.i fun h => ?_ | refine IkZq.i fun hk => ?_)
    refine ⟨i + 1, by omega, by omega, TWk.fcanon env [] (by rfl) ?_⟩
    repeat' (first
      | with_reducible first | exact Conj.nil | refine Conj.cons rfl ?_ | refine Conj.same ?_ | refine Conj.ask ?_ ?_
      | ((with_reducible refine Due.mk ?_); (first | with_reducible rfl | omega | assumption | decide | ((try simp only [goS] at *) <;> (try intro h) <;> (try intro h') <;> (try simp only [goS] at *) <;> (try simp only [rdi, Int.toNat_natCast, Nat.add_zero] at *) <;> (try simp only [rng]) <;> (first | assumption | omega)) | (exact due_app0 (by omega)) | (exact due_app (by omega)) | (intros; simp; done) | (intros; simp; omega)))
      | with_reducible refine Due.mk ?_
      | omega)
  · obtain rfl : i = l.length := by omega
    rw [List.take_length] at *
    have e3 : (ndx s 0 l : Int) * out = ((ndx s 0 l * out : Nat) : Int) := by simp
    have e4 : ndx s 0 l * out ≤ 10000 * 8 := Nat.mul_le_mul h0 ho
    repeat' (first
      | refine GZy_i (And.intro ll e3) ?_ ?_ ?_ ?_ ?_ ?_ ?_ ?_
      | with_reducible first | exact BzZq.mk | refine Tw.ret ?_ | refine ImZq.i fun h => ?_ | refine IkZq.i fun hk => ?_)
    exact ⟨rfl, rfl, rfl⟩

/-- The axes that are sorted: k of them, by decreasing parts. -/
structure Srt (p : Nat → Nat) (k : Nat) (ax : Nat → Nat) : Prop where
  lt : ∀ i, i < k → ax i < k
  inj : ∀ i j, i < j → j < k → ax i ≠ ax j
  ord : ∀ i j, i < j → j < k → p (ax j) ≤ p (ax i)
  all : ∀ i, i < k → ∃ j, j < k ∧ ax j = i
/-- The axes while k is brought to its place, which is not behind j. -/
structure Sft (p : Nat → Nat) (k : Nat) (ax : Nat → Nat) (j : Nat) (h : Nat → Nat) : Prop where
  j1 : j ≤ k
  lo : ∀ i, i < j → h i = ax i
  hi : ∀ i, j < i → i ≤ k → h i = ax (i - 1)
  less : ∀ i, j ≤ i → i < k → p (ax i) < p k
theorem Sft.start {p : Nat → Nat} {k : Nat} {ax : Nat → Nat} : Sft p k ax k ax := ⟨Nat.le_refl _, fun _ _ => rfl, fun i h1 h2 => by omega, fun i h1 h2 => by omega⟩
theorem Sft.step {p : Nat → Nat} {k j : Nat} {ax h : Nat → Nat} (s : Sft p k ax (j + 1) h) (hp : p (ax j) < p k) : Sft p k ax j (fun i => if i = j + 1 then h j else h i) := by
  obtain ⟨s1, s2, s3, s4⟩ := s
  refine ⟨by omega, fun i hi => ?_, fun i h1 h2 => ?_, fun i h1 h2 => ?_⟩
  · rw [if_neg (by omega)]; exact s2 i (by omega)
  · by_cases e : i = j + 1
    · subst e; rw [if_pos rfl]; exact s2 j (by omega)
    · rw [if_neg e]; exact s3 i (by omega) h2
  · by_cases e : i = j
    · subst e; exact hp
    · exact s4 i (by omega) h2
theorem Sft.done {p : Nat → Nat} {k j : Nat} {ax h : Nat → Nat} (t : Srt p k ax) (s : Sft p k ax j h) (hp : j = 0 ∨ p k ≤ p (ax (j - 1))) : Srt p (k + 1) (fun i => if i = j then k else h i) := by
  obtain ⟨s1, s2, s3, s4⟩ := s
  obtain ⟨t1, t2, t3, t4⟩ := t
  have val : ∀ i, i ≠ j → i ≤ k → ∃ m, m < k ∧ h i = ax m ∧ (i < j → m = i) ∧ (j < i → m = i - 1) := fun i hi hk => by
    rcases Nat.lt_or_ge i j with h1 | h1
    · exact ⟨i, by omega, s2 i h1, fun _ => rfl, fun h => by omega⟩
    · exact ⟨i - 1, by omega, s3 i (by omega) hk, fun h => by omega, fun _ => rfl⟩
  refine ⟨fun i hi => ?_, fun a b hab hb => ?_, fun a b hab hb => ?_, fun i hi => ?_⟩
  · by_cases e : i = j
    · rw [if_pos e]; omega
    · rw [if_neg e]
      obtain ⟨m, m1, m2, _⟩ := val i e (by omega)
      rw [m2]; have := t1 m m1; omega
  · by_cases ea : a = j
    · rw [if_pos ea, if_neg (by omega)]
      obtain ⟨m, m1, m2, _⟩ := val b (by omega) (by omega)
      rw [m2]; have := t1 m m1; omega
    · obtain ⟨m, m1, m2, m3, m4⟩ := val a ea (by omega)
      rw [if_neg ea, m2]
      by_cases eb : b = j
      · rw [if_pos eb]; have := t1 m m1; omega
      · obtain ⟨n, n1, n2, n3, n4⟩ := val b eb (by omega)
        rw [if_neg eb, n2]
        refine t2 m n ?_ n1
        rcases Nat.lt_or_ge a j with h1 | h1 <;> rcases Nat.lt_or_ge b j with h2 | h2
        · rw [m3 h1, n3 h2]; omega
        · rw [m3 h1, n4 (by omega)]; omega
        · omega
        · rw [m4 (by omega), n4 (by omega)]; omega
  · by_cases ea : a = j
    · rw [if_pos ea, if_neg (by omega)]
      obtain ⟨m, m1, m2, m3, m4⟩ := val b (by omega) (by omega)
      rw [m2, m4 (by omega)]
      exact Nat.le_of_lt (s4 _ (by omega) (by omega))
    · obtain ⟨m, m1, m2, m3, m4⟩ := val a ea (by omega)
      rw [if_neg ea, m2]
      by_cases eb : b = j
      · rw [if_pos eb, m3 (by omega)]
        rcases hp with hp | hp
        · omega
        · by_cases e : a = j - 1
          · rw [e]; exact hp
          · exact Nat.le_trans hp (t3 a (j - 1) (by omega) (by omega))
      · obtain ⟨n, n1, n2, n3, n4⟩ := val b eb (by omega)
        rw [if_neg eb, n2]
        refine t3 m n ?_ n1
        rcases Nat.lt_or_ge a j with h1 | h1 <;> rcases Nat.lt_or_ge b j with h2 | h2
        · rw [m3 h1, n3 h2]; omega
        · rw [m3 h1, n4 (by omega)]; omega
        · omega
        · rw [m4 (by omega), n4 (by omega)]; omega
  · by_cases e : i = k
    · exact ⟨j, by omega, by rw [if_pos rfl, e]⟩
    · obtain ⟨m, m1, m2⟩ := t4 i (by omega)
      rcases Nat.lt_or_ge m j with h | h
      · exact ⟨m, by omega, by rw [if_neg (by omega), s2 m h, m2]⟩
      · exact ⟨m + 1, by omega, by rw [if_neg (by omega), s3 (m + 1) (by omega) (by omega)]; exact m2⟩
/-- The step that belongs to j. -/
def wj (st n : Nat) (p ax : Nat → Nat) (j : Nat) : Nat := if j = 0 then st else if j ≤ n then p (ax (j - 1)) else 0
/-- The cell, moved along the first j axes. -/
def cj (q ax : Nat → Nat) (j i : Nat) : Nat := q i + if ∃ j', j' < j ∧ ax j' = i then 1 else 0
theorem wj_le {st n : Nat} {p ax : Nat → Nat} (t : Srt p n ax) (hp : ∀ i, p i < st) {j : Nat} (hj : j ≤ n) : wj st n p ax (j + 1) ≤ wj st n p ax j := by
  unfold wj
  rw [if_neg (by omega)]
  by_cases h : j + 1 ≤ n
  · rw [if_pos h, Nat.add_sub_cancel]
    by_cases e : j = 0
    · rw [if_pos e]; exact Nat.le_of_lt (hp _)
    · rw [if_neg e, if_pos hj]; exact t.ord (j - 1) j (by omega) (by omega)
  · rw [if_neg h]; omega
theorem cj_is {st n : Nat} {xs ax : Nat → Nat} (t : Srt (fun i => xs i % st) n ax) {j i b : Nat} (hj : j ≤ n) (hi : i < n) (h1 : wj st n (fun i => xs i % st) ax (j + 1) ≤ b) (h2 : b < wj st n (fun i => xs i % st) ax j) : gc st b (xs i) = cj (fun i => xs i / st) ax j i := by
  unfold gc cj
  congr 1
  by_cases h : ∃ j', j' < j ∧ ax j' = i
  · rw [if_pos h, if_pos]
    obtain ⟨j', h3, rfl⟩ := h
    unfold wj at h2
    rw [if_neg (by omega), if_pos hj] at h2
    by_cases e : j' = j - 1
    · subst e; exact h2
    · exact Nat.lt_of_lt_of_le h2 (t.ord j' (j - 1) (by omega) (by omega))
  · rw [if_neg h, if_neg]
    intro h3
    obtain ⟨m, m1, rfl⟩ := t.all i hi
    have hm : j ≤ m := by
      rcases Nat.lt_or_ge m j with h4 | h4
      · exact absurd ⟨m, h4, rfl⟩ h
      · exact h4
    unfold wj at h1
    rw [if_neg (by omega), if_pos (by omega), Nat.add_sub_cancel] at h1
    by_cases e : j = m
    · subst e; dsimp only at h1; omega
    · have := t.ord j m (by omega) m1
      dsimp only at this h1
      omega
theorem cj_next {q ax : Nat → Nat} {p : Nat → Nat} {n j i : Nat} (t : Srt p n ax) (hj : j < n) : cj q ax (j + 1) i = if i = ax j then cj q ax j i + 1 else cj q ax j i := by
  unfold cj
  by_cases e : i = ax j
  · subst e
    rw [if_pos rfl, if_pos ⟨j, by omega, rfl⟩, if_neg]
    rintro ⟨j', h1, h2⟩
    exact t.inj j' j h1 hj h2
  · rw [if_neg e]
    congr 1
    by_cases h : ∃ j', j' < j ∧ ax j' = i
    · obtain ⟨j', h1, h2⟩ := h
      rw [if_pos ⟨j', by omega, h2⟩, if_pos ⟨j', h1, h2⟩]
    · rw [if_neg h, if_neg]
      rintro ⟨j', h1, h2⟩
      by_cases e2 : j' = j
      · subst e2; exact e h2.symm
      · exact h ⟨j', by omega, h2⟩
theorem cj_zero {q ax : Nat → Nat} {i : Nat} : cj q ax 0 i = q i := by
  unfold cj; rw [if_neg (by rintro ⟨j', h, _⟩; omega)]; rfl
theorem cj_le {q ax : Nat → Nat} {j i : Nat} : cj q ax j i ≤ q i + 1 := by unfold cj; split <;> omega
end Go.Proofs.Ytkapjajlkpepmaa
