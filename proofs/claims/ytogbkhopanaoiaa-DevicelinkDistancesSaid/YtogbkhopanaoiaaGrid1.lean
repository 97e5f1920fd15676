/- Grids: the place of a node; interpolation. -/
import Derived.Test.YtogbkhopanaoiaaGridM
import Derived.Test.YtogbkhopanaoiaaCurve1
import Derived.Test.YtogbkhopanaoiaaXDevicelinkDistances0
import Derived.Test.YtogbkhopanaoiaaGo
namespace Go.Proofs.Ytogbkhopanaoiaa
open Go Go.Lite
set_option linter.unusedVariables false
set_option linter.unusedSimpArgs false
set_option maxRecDepth 100000
set_option maxHeartbeats 4000000
-- @simp rdi

def nz (l : List Nat) : List Int := l.map fun k : Nat => (k : Int)
theorem nz_get {l : List Nat} {i : Nat} : (nz l).getD i 0 = ((l.getD i 0 : Nat) : Int) := by
  simp only [nz, List.getD_eq_getElem?_getD, List.getElem?_map]
  cases l[i]? <;> simp
theorem TWk.re {N : Dim} {F : TF A} {H H' : TH A} (h : embH R H' = embH R H) : TWk R N F H' F H := by unfold TWk; rw [h]; exact Wk.refl _ _
theorem nz_len {l : List Nat} : (nz l).length = l.length := by simp [nz]
theorem ndx_le {s : Nat} (hs : s ≤ 9) : ∀ {l : List Nat} {n : Nat}, (∀ k ∈ l, k ≤ 9) → ndx s n l + 1 ≤ (n + 1) * 10 ^ l.length
  | [], n, _ => by simp [ndx]
  | k :: r, n, h => by
    have := ndx_le hs (l := r) (n := n * s + k) fun j hj => h j (List.mem_cons_of_mem _ hj)
    have hk := h k (List.mem_cons_self ..)
    simp only [ndx, List.length_cons]
    refine Nat.le_trans this ?_
    rw [Nat.pow_succ, Nat.mul_comm (10 ^ r.length) 10, ← Nat.mul_assoc]
    refine Nat.mul_le_mul_right _ ?_
    have : n * s ≤ n * 9 := Nat.mul_le_mul_left _ hs
    omega
theorem gat_c (inn out s : Nat) (vals : List Int) (l : List Nat) (hs : Due (s ≤ 9)) (ho : Due (out ≤ 8)) (hl : Due (l.length ≤ 4)) (hk : Due (∀ k ∈ l, k ≤ 9)) :
    TC R Try.prog grid_at_f [.pel [.int .i64 inn, .int .i64 out, .int .i64 s, .lst Ei vals], .lst Ei (nz l)] [] (fun v X => v = .int .i64 ((ndx s 0 l * out : Nat) : Int) ∧ X = []) := by
  dsimp only [Due] at hs ho hl hk
  refine tc0 env grid_at_s (by rfl) ?_
  dsimp only [grid_at_c]
  have hb : ∀ i, i ≤ l.length → ndx s 0 (l.take i) ≤ 10000 := fun i hi => by
    have := ndx_le hs (l := l.take i) (n := 0) fun k h => hk k (List.mem_of_mem_take h)
    rw [List.length_take, Nat.min_eq_left hi, Nat.zero_add, Nat.one_mul] at this
    have h2 : (10 : Nat) ^ i ≤ 10 ^ 4 := Nat.pow_le_pow_right (by omega) (by omega)
    omega
  have ll := nz_len (l := l)
  repeat' (first
    | refine GZy_i ll ?_ ?_ ?_ ?_ ?_ ?_ ?_ ?_
    | with_reducible first | exact BzZq.mk | refine Tw.ret ?_ | refine ImZq.i fun h => ?_ | refine IkZq.i fun hk => ?_)
  refine Tw.loopK [0, 8, 9] (fun i : Nat => i ≤ l.length) (fun i => l.length - i) (fun i => [(5, .int .i64 ((ndx s 0 (l.take i) : Nat) : Int)), (10, .int .i64 i)]) (fun _ => []) ⟨0, by omega, TWk.fcanon env [] (by rfl) ?_⟩ (fun i hi => ?_)
  · repeat' (first
      | with_reducible first | exact Conj.nil | refine Conj.cons rfl ?_ | refine Conj.same ?_ | refine Conj.ask ?_ ?_
      | ((with_reducible refine Due.mk ?_); (first | with_reducible rfl | omega | assumption | decide | ((try simp only [goS] at *) <;> (try intro h) <;> (try intro h') <;> (try simp only [goS] at *) <;> (try simp only [rdi, Int.toNat_natCast, Nat.add_zero] at *) <;> (try simp only [rng]) <;> (first | assumption | omega)) | (exact due_app0 (by omega)) | (exact due_app (by omega)) | (intros; simp; done) | (intros; simp; omega)))
      | with_reducible refine Due.mk ?_
      | omega)
  have h0 := hb i hi
  rcases Nat.lt_or_ge i l.length with hi | hi
  · have h1 := hb (i + 1) (by omega)
    have e : l.take (i + 1) = l.take i ++ [l.getD i 0] := by
      rw [List.take_succ_eq_append_getElem hi, getD_get _ hi]
    have e2 : ndx s 0 (l.take (i + 1)) = ndx s 0 (l.take i) * s + l.getD i 0 := by rw [e, ndx_snoc]
    have e3 : (ndx s 0 (l.take i) : Int) * s = ((ndx s 0 (l.take i) * s : Nat) : Int) := by simp
    have e4 := nz_get (l := l) (i := i)
    have e5 : (ndx s 0 (l.take (i + 1)) : Int) = (ndx s 0 (l.take i) : Int) * s + ((l.getD i 0 : Nat) : Int) := by rw [e2]; simp
    generalize ndx s 0 (l.take i) * s = n0 at *
    generalize ndx s 0 (l.take i) = n at *
    repeat' (first
      | refine GZy_i (And.intro ll (And.intro e3 e4)) ?_ ?_ ?_ ?_ ?_ ?_ ?_ ?_
      | with_reducible first | exact BzZq.mk | refine Tw.ret ?_ | refine ImZq.i fun h => ?_ | refine IkZq.i fun hk => ?_)
    refine ⟨i + 1, by omega, by omega, TWk.fcanon env [] (by rfl) ?_⟩
    repeat' (first
      | with_reducible first | exact Conj.nil | refine Conj.cons rfl ?_ | refine Conj.same ?_ | refine Conj.ask ?_ ?_
      | ((with_reducible refine Due.mk ?_); (first | with_reducible rfl | omega | assumption | decide | ((try simp only [goS] at *) <;> (try intro h) <;> (try intro h') <;> (try simp only [goS] at *) <;> (try simp only [rdi, Int.toNat_natCast, Nat.add_zero] at *) <;> (try simp only [rng]) <;> (first | assumption | omega)) | (exact due_app0 (by omega)) | (exact due_app (by omega)) | (intros; simp; done) | (intros; simp; omega)))
      | with_reducible refine Due.mk ?_
      | omega)
  · obtain rfl : i = l.length := by omega
    rw [List.take_length] at *
    have e3 : (ndx s 0 l : Int) * out = ((ndx s 0 l * out : Nat) : Int) := by simp
    have e4 : ndx s 0 l * out ≤ 10000 * 8 := Nat.mul_le_mul h0 ho
    repeat' (first
      | refine GZy_i (And.intro ll e3) ?_ ?_ ?_ ?_ ?_ ?_ ?_ ?_
      | with_reducible first | exact BzZq.mk | refine Tw.ret ?_ | refine ImZq.i fun h => ?_ | refine IkZq.i fun hk => ?_)
    exact ⟨rfl, rfl, rfl⟩

/-- The axes that are sorted: k of them, by decreasing parts. -/
structure Srt (p : Nat → Nat) (k : Nat) (ax : Nat → Nat) : Prop where
  lt : ∀ i, i < k → ax i < k
  inj : ∀ i j, i < j → j < k → ax i ≠ ax j
  ord : ∀ i j, i < j → j < k → p (ax j) ≤ p (ax i)
  all : ∀ i, i < k → ∃ j, j < k ∧ ax j = i
/-- The axes while k is brought to its place, which is not behind j. -/
structure Sft (p : Nat → Nat) (k : Nat) (ax : Nat → Nat) (j : Nat) (h : Nat → Nat) : Prop where
  j1 : j ≤ k
  lo : ∀ i, i < j → h i = ax i
  hi : ∀ i, j < i → i ≤ k → h i = ax (i - 1)
  less : ∀ i, j ≤ i → i < k → p (ax i) < p k
theorem Sft.start {p : Nat → Nat} {k : Nat} {ax : Nat → Nat} : Sft p k ax k ax := ⟨Nat.le_refl _, fun _ _ => rfl, fun i h1 h2 => by omega, fun i h1 h2 => by omega⟩
theorem Sft.step {p : Nat → Nat} {k j : Nat} {ax h : Nat → Nat} (s : Sft p k ax (j + 1) h) (hp : p (ax j) < p k) : Sft p k ax j (fun i => if i = j + 1 then h j else h i) := by
  obtain ⟨s1, s2, s3, s4⟩ := s
  refine ⟨by omega, fun i hi => ?_, fun i h1 h2 => ?_, fun i h1 h2 => ?_⟩
  · rw [if_neg (by omega)]; exact s2 i (by omega)
  · by_cases e : i = j + 1
    · subst e; rw [if_pos rfl]; exact s2 j (by omega)
    · rw [if_neg e]; exact s3 i (by omega) h2
  · by_cases e : i = j
    · subst e; exact hp
    · exact s4 i (by omega) h2
theorem Sft.done {p : Nat → Nat} {k j : Nat} {ax h : Nat → Nat} (t : Srt p k ax) (s : Sft p k ax j h) (hp : j = 0 ∨ p k ≤ p (ax (j - 1))) : Srt p (k + 1) (fun i => if i = j then k else h i) := by
  obtain ⟨s1, s2, s3, s4⟩ := s
  obtain ⟨t1, t2, t3, t4⟩ := t
  have val : ∀ i, i ≠ j → i ≤ k → ∃ m, m < k ∧ h i = ax m ∧ (i < j → m = i) ∧ (j < i → m = i - 1) := fun i hi hk => by
    rcases Nat.lt_or_ge i j with h1 | h1
    · exact ⟨i, by omega, s2 i h1, fun _ => rfl, fun h => by omega⟩
    · exact ⟨i - 1, by omega, s3 i (by omega) hk, fun h => by omega, fun _ => rfl⟩
  refine ⟨fun i hi => ?_, fun a b hab hb => ?_, fun a b hab hb => ?_, fun i hi => ?_⟩
  · by_cases e : i = j
    · rw [if_pos e]; omega
    · rw [if_neg e]
      obtain ⟨m, m1, m2, _⟩ := val i e (by omega)
      rw [m2]; have := t1 m m1; omega
  · by_cases ea : a = j
    · rw [if_pos ea, if_neg (by omega)]
      obtain ⟨m, m1, m2, _⟩ := val b (by omega) (by omega)
      rw [m2]; have := t1 m m1; omega
    · obtain ⟨m, m1, m2, m3, m4⟩ := val a ea (by omega)
      rw [if_neg ea, m2]
      by_cases eb : b = j
      · rw [if_pos eb]; have := t1 m m1; omega
      · obtain ⟨n, n1, n2, n3, n4⟩ := val b eb (by omega)
        rw [if_neg eb, n2]
        refine t2 m n ?_ n1
        rcases Nat.lt_or_ge a j with h1 | h1 <;> rcases Nat.lt_or_ge b j with h2 | h2
        · rw [m3 h1, n3 h2]; omega
        · rw [m3 h1, n4 (by omega)]; omega
        · omega
        · rw [m4 (by omega), n4 (by omega)]; omega
  · by_cases ea : a = j
    · rw [if_pos ea, if_neg (by omega)]
      obtain ⟨m, m1, m2, m3, m4⟩ := val b (by omega) (by omega)
      rw [m2, m4 (by omega)]
      exact Nat.le_of_lt (s4 _ (by omega) (by omega))
    · obtain ⟨m, m1, m2, m3, m4⟩ := val a ea (by omega)
      rw [if_neg ea, m2]
      by_cases eb : b = j
      · rw [if_pos eb, m3 (by omega)]
        rcases hp with hp | hp
        · omega
        · by_cases e : a = j - 1
          · rw [e]; exact hp
          · exact Nat.le_trans hp (t3 a (j - 1) (by omega) (by omega))
      · obtain ⟨n, n1, n2, n3, n4⟩ := val b eb (by omega)
        rw [if_neg eb, n2]
        refine t3 m n ?_ n1
        rcases Nat.lt_or_ge a j with h1 | h1 <;> rcases Nat.lt_or_ge b j with h2 | h2
        · rw [m3 h1, n3 h2]; omega
        · rw [m3 h1, n4 (by omega)]; omega
        · omega
        · rw [m4 (by omega), n4 (by omega)]; omega
  · by_cases e : i = k
    · exact ⟨j, by omega, by rw [if_pos rfl, e]⟩
    · obtain ⟨m, m1, m2⟩ := t4 i (by omega)
      rcases Nat.lt_or_ge m j with h | h
      · exact ⟨m, by omega, by rw [if_neg (by omega), s2 m h, m2]⟩
      · exact ⟨m + 1, by omega, by rw [if_neg (by omega), s3 (m + 1) (by omega) (by omega)]; exact m2⟩
/-- The step that belongs to j. -/
def wj (st n : Nat) (p ax : Nat → Nat) (j : Nat) : Nat := if j = 0 then st else if j ≤ n then p (ax (j - 1)) else 0
/-- The cell, moved along the first j axes. -/
def cj (q ax : Nat → Nat) (j i : Nat) : Nat := q i + if ∃ j', j' < j ∧ ax j' = i then 1 else 0
theorem wj_le {st n : Nat} {p ax : Nat → Nat} (t : Srt p n ax) (hp : ∀ i, p i < st) {j : Nat} (hj : j ≤ n) : wj st n p ax (j + 1) ≤ wj st n p ax j := by
  unfold wj
  rw [if_neg (by omega)]
  by_cases h : j + 1 ≤ n
  · rw [if_pos h, Nat.add_sub_cancel]
    by_cases e : j = 0
    · rw [if_pos e]; exact Nat.le_of_lt (hp _)
    · rw [if_neg e, if_pos hj]; exact t.ord (j - 1) j (by omega) (by omega)
  · rw [if_neg h]; omega
theorem cj_is {st n : Nat} {xs ax : Nat → Nat} (t : Srt (fun i => xs i % st) n ax) {j i b : Nat} (hj : j ≤ n) (hi : i < n) (h1 : wj st n (fun i => xs i % st) ax (j + 1) ≤ b) (h2 : b < wj st n (fun i => xs i % st) ax j) : gc st b (xs i) = cj (fun i => xs i / st) ax j i := by
  unfold gc cj
  congr 1
  by_cases h : ∃ j', j' < j ∧ ax j' = i
  · rw [if_pos h, if_pos]
    obtain ⟨j', h3, rfl⟩ := h
    unfold wj at h2
    rw [if_neg (by omega), if_pos hj] at h2
    by_cases e : j' = j - 1
    · subst e; exact h2
    · exact Nat.lt_of_lt_of_le h2 (t.ord j' (j - 1) (by omega) (by omega))
  · rw [if_neg h, if_neg]
    intro h3
    obtain ⟨m, m1, rfl⟩ := t.all i hi
    have hm : j ≤ m := by
      rcases Nat.lt_or_ge m j with h4 | h4
      · exact absurd ⟨m, h4, rfl⟩ h
      · exact h4
    unfold wj at h1
    rw [if_neg (by omega), if_pos (by omega), Nat.add_sub_cancel] at h1
    by_cases e : j = m
    · subst e; dsimp only at h1; omega
    · have := t.ord j m (by omega) m1
      dsimp only at this h1
      omega
theorem cj_next {q ax : Nat → Nat} {p : Nat → Nat} {n j i : Nat} (t : Srt p n ax) (hj : j < n) : cj q ax (j + 1) i = if i = ax j then cj q ax j i + 1 else cj q ax j i := by
  unfold cj
  by_cases e : i = ax j
  · subst e
    rw [if_pos rfl, if_pos ⟨j, by omega, rfl⟩, if_neg]
    rintro ⟨j', h1, h2⟩
    exact t.inj j' j h1 hj h2
  · rw [if_neg e]
    congr 1
    by_cases h : ∃ j', j' < j ∧ ax j' = i
    · obtain ⟨j', h1, h2⟩ := h
      rw [if_pos ⟨j', by omega, h2⟩, if_pos ⟨j', h1, h2⟩]
    · rw [if_neg h, if_neg]
      rintro ⟨j', h1, h2⟩
      by_cases e2 : j' = j
      · subst e2; exact e h2.symm
      · exact h ⟨j', by omega, h2⟩
theorem cj_zero {q ax : Nat → Nat} {i : Nat} : cj q ax 0 i = q i := by
  unfold cj; rw [if_neg (by rintro ⟨j', h, _⟩; omega)]; rfl
theorem cj_le {q ax : Nat → Nat} {j i : Nat} : cj q ax j i ≤ q i + 1 := by unfold cj; split <;> omega
end Go.Proofs.Ytogbkhopanaoiaa
