/- Screens: the scattered order, in plain numbers. -/
import Derived.Test.YtagfanbodglplaaScr4
namespace Go.Proofs.Ytagfanbodglplaa
open Go Go.Lite
set_option linter.unusedVariables false
set_option linter.unusedSimpArgs false
set_option maxRecDepth 100000
set_option maxHeartbeats 4000000

theorem nd_le : ∀ (n : Nat) (l : List Nat), l.Nodup → (∀ x ∈ l, x < n) → l.length ≤ n := by
  intro n
  induction n with
  | zero =>
    intro l _ h
    cases l with
    | nil => simp
    | cons x r => have := h x (by simp); omega
  | succ n ih =>
    intro l hl h
    have h2 := ih (l.erase n) (hl.erase n) fun x hx => by
      obtain ⟨h3, h4⟩ := hl.mem_erase_iff.1 hx
      have := h x h4
      omega
    rw [List.length_erase] at h2
    split at h2 <;> omega
theorem nd_mem {n : Nat} {l : List Nat} (hl : l.Nodup) (h : ∀ x ∈ l, x < n) (hn : n ≤ l.length) : ∀ j, j < n → j ∈ l := fun j hj => by
  refine Decidable.byContradiction fun hc => ?_
  have := nd_le n (j :: l) (List.nodup_cons.2 ⟨hc, hl⟩) fun x hx => by
    rcases List.mem_cons.1 hx with rfl | hx
    · exact hj
    · exact h x hx
  simp at this; omega
theorem nd_perm {n : Nat} {l : List Nat} (hl : l.Nodup) (h : ∀ x ∈ l, x < n) (hn : n ≤ l.length) : l.Perm (List.range n) :=
  (List.perm_ext_iff_of_nodup hl List.nodup_range).2 fun x => ⟨fun hx => by simpa using h x hx, fun hx => nd_mem hl h hn x (by simpa using hx)⟩

/-- A place whose distances are 0 is the first one. -/
theorem off_zero {a b P f g : Int} (hn : 1 ≤ a * a + b * b) (F : Frm a b P f g) {q : Int} (hq : 0 ≤ q ∧ q < g * P) (hu : oU a b P q = 0) (hv : oV a b P q = 0) : q = 0 := by
  have hP := F.pb
  have hg := F.gb
  obtain ⟨n1, j1, e1, e2⟩ := F.l1
  obtain ⟨n2, j2, e3, e4⟩ := F.l2
  obtain ⟨X, hX⟩ : ∃ X, X = q % P := ⟨_, rfl⟩
  obtain ⟨Y, hY⟩ : ∃ Y, Y = q / P := ⟨_, rfl⟩
  have hq2 : P * Y + X = q := by rw [hX, hY]; exact Int.mul_ediv_add_emod q P
  have x1 : 0 ≤ X := by rw [hX]; exact Int.emod_nonneg q (by omega)
  have x2 : X < P := by rw [hX]; exact Int.emod_lt_of_pos q (by omega)
  have y1 : 0 ≤ Y := by rw [hY]; exact Int.ediv_nonneg hq.1 (by omega)
  have y2 : Y < g := by rw [hY]; exact Int.ediv_lt_of_lt_mul (by omega) hq.2
  unfold oU at hu
  unfold oV at hv
  rw [← hX, ← hY] at hu hv
  obtain ⟨N, hN⟩ : ∃ N, N = a * a + b * b := ⟨_, rfl⟩
  rw [← hN] at hu hv hn
  have u1 := Int.emod_nonneg (X * a + Y * b) (show N ≠ 0 by omega)
  have u2 := Int.emod_lt_of_pos (X * a + Y * b) (show 0 < N by omega)
  have v1 := Int.emod_nonneg (Y * a - X * b) (show N ≠ 0 by omega)
  have v2 := Int.emod_lt_of_pos (Y * a - X * b) (show 0 < N by omega)
  have u3 := Int.mul_ediv_add_emod (X * a + Y * b) N
  have v3 := Int.mul_ediv_add_emod (Y * a - X * b) N
  have u0 : (X * a + Y * b) % N = 0 := by omega
  have v0 : (Y * a - X * b) % N = 0 := by omega
  rw [u0] at u3
  rw [v0] at v3
  generalize (X * a + Y * b) / N = s at *
  generalize (Y * a - X * b) / N = t at *
  have ex : N * X = N * (s * a - t * b) := by rw [hN] at *; grind
  have ey : N * Y = N * (s * b + t * a) := by rw [hN] at *; grind
  have ex' := Int.eq_of_mul_eq_mul_left (show N ≠ 0 by omega) ex
  have ey' := Int.eq_of_mul_eq_mul_left (show N ≠ 0 by omega) ey
  have gy : Y = g * (s * n1 + t * n2) := by rw [ey', e1, e3]; grind
  have k0 : s * n1 + t * n2 = 0 := by
    rcases Int.lt_trichotomy (s * n1 + t * n2) 0 with h | h | h
    · have := Int.mul_le_mul_of_nonneg_left (show s * n1 + t * n2 ≤ -1 by omega) (show 0 ≤ g by omega)
      omega
    · exact h
    · have := Int.mul_le_mul_of_nonneg_left (show 1 ≤ s * n1 + t * n2 by omega) (show 0 ≤ g by omega)
      omega
  have Y0 : Y = 0 := by rw [gy, k0]; simp
  have gx : X = P * (s * j1 + t * j2) := by
    have : X = s * (n1 * f + P * j1) + t * (n2 * f + P * j2) := by
      rw [ex', show n1 * f + P * j1 = a by omega, show n2 * f + P * j2 = -b by omega]; grind
    rw [this]
    have e5 : s * (n1 * f + P * j1) + t * (n2 * f + P * j2) = (s * n1 + t * n2) * f + P * (s * j1 + t * j2) := by grind
    rw [e5, k0]; simp
  have k1 : s * j1 + t * j2 = 0 := by
    rcases Int.lt_trichotomy (s * j1 + t * j2) 0 with h | h | h
    · have := Int.mul_le_mul_of_nonneg_left (show s * j1 + t * j2 ≤ -1 by omega) (show 0 ≤ P by omega)
      omega
    · exact h
    · have := Int.mul_le_mul_of_nonneg_left (show 1 ≤ s * j1 + t * j2 by omega) (show 0 ≤ P by omega)
      omega
  rw [← hq2, Y0, gx, k1]; simp

/-- The place of a difference of two places is the first one only if they are one. -/
theorem plc_diff {P f g i j : Int} (hP : 1 ≤ P) (hg : 1 ≤ g) (hi : 0 ≤ i ∧ i < g * P) (hj : 0 ≤ j ∧ j < g * P) :
    (0 ≤ plc P f g (i % P - j % P) (i / P - j / P) ∧ plc P f g (i % P - j % P) (i / P - j / P) < g * P) ∧ (plc P f g (i % P - j % P) (i / P - j / P) = 0 → i = j) ∧ (i = j → plc P f g (i % P - j % P) (i / P - j / P) = 0) := by
  have a1 := Int.emod_nonneg i (show P ≠ 0 by omega)
  have a2 := Int.emod_lt_of_pos i (show 0 < P by omega)
  have a3 := Int.emod_nonneg j (show P ≠ 0 by omega)
  have a4 := Int.emod_lt_of_pos j (show 0 < P by omega)
  have b1 : 0 ≤ i / P := Int.ediv_nonneg hi.1 (by omega)
  have b2 : i / P < g := Int.ediv_lt_of_lt_mul (by omega) hi.2
  have b3 : 0 ≤ j / P := Int.ediv_nonneg hj.1 (by omega)
  have b4 : j / P < g := Int.ediv_lt_of_lt_mul (by omega) hj.2
  have c1 := Int.mul_ediv_add_emod i P
  have c2 := Int.mul_ediv_add_emod j P
  generalize i % P = x at *
  generalize i / P = y at *
  generalize j % P = x' at *
  generalize j / P = y' at *
  unfold plc
  have m1 := Int.emod_nonneg (y - y') (show g ≠ 0 by omega)
  have m2 := Int.emod_lt_of_pos (y - y') (show 0 < g by omega)
  have m3 := Int.mul_ediv_add_emod (y - y') g
  generalize hr : (y - y') % g = r at *
  generalize hd : (y - y') / g = d at *
  obtain ⟨z, hz⟩ : ∃ z, z = (x - x' - d % P * f) % P := ⟨_, rfl⟩
  have z1 : 0 ≤ z := by rw [hz]; exact Int.emod_nonneg _ (by omega)
  have z2 : z < P := by rw [hz]; exact Int.emod_lt_of_pos _ (by omega)
  rw [← hz]
  have hrP : r * P ≤ (g - 1) * P := Int.mul_le_mul_of_nonneg_right (by omega) (by omega)
  have hrP0 : 0 ≤ r * P := Int.mul_nonneg m1 (by omega)
  have hgP : (g - 1) * P = g * P - P := by rw [Int.sub_mul]; omega
  refine ⟨by omega, fun h => ?_, fun h => ?_⟩
  · have r0 : r = 0 := by
      rcases Int.lt_or_le 0 r with h' | h'
      · have := Int.mul_le_mul_of_nonneg_right (show 1 ≤ r by omega) (show 0 ≤ P by omega); omega
      · omega
    subst r0
    have d0 : d = 0 := by
      rcases Int.lt_trichotomy d 0 with h' | h' | h'
      · have := Int.mul_le_mul_of_nonneg_left (show d ≤ -1 by omega) (show 0 ≤ g by omega); omega
      · exact h'
      · have := Int.mul_le_mul_of_nonneg_left (show 1 ≤ d by omega) (show 0 ≤ g by omega); omega
    subst d0
    have hz0 : z = 0 := by omega
    rw [hz0] at hz
    have e0 : (0 : Int) % P = 0 := Int.zero_emod P
    rw [e0] at hz
    have e3 := Int.mul_ediv_add_emod (x - x' - 0 * f) P
    rw [← hz] at e3
    have w0 : (x - x' - 0 * f) / P = 0 := by
      generalize (x - x' - 0 * f) / P = w at *
      rcases Int.lt_trichotomy w 0 with h' | h' | h'
      · have := Int.mul_le_mul_of_nonneg_left (show w ≤ -1 by omega) (show 0 ≤ P by omega); omega
      · exact h'
      · have := Int.mul_le_mul_of_nonneg_left (show 1 ≤ w by omega) (show 0 ≤ P by omega); omega
    rw [w0] at e3
    have hx : x = x' := by omega
    have hy : y = y' := by omega
    rw [← c1, ← c2, hx, hy]
  · have hPy : P * y + x = P * y' + x' := by omega
    have hyy : y = y' := by
      rcases Int.lt_trichotomy y y' with h' | h' | h'
      · have := Int.mul_le_mul_of_nonneg_left (show y + 1 ≤ y' by omega) (show 0 ≤ P by omega)
        rw [Int.mul_add] at this; omega
      · exact h'
      · have := Int.mul_le_mul_of_nonneg_left (show y' + 1 ≤ y by omega) (show 0 ≤ P by omega)
        rw [Int.mul_add] at this; omega
    subst hyy
    have hxx : x = x' := by omega
    subst hxx
    have e1 : y - y = 0 := by omega
    rw [e1] at hr hd
    have e0 : (0 : Int) % g = 0 := Int.zero_emod g
    have e0' : (0 : Int) / g = 0 := Int.zero_ediv g
    rw [e0] at hr
    rw [e0'] at hd
    subst hr; subst hd
    have e2 : x - x - 0 % P * f = 0 := by rw [Int.zero_emod]; omega
    rw [hz, e2, Int.zero_emod]; simp

def dsq (a b P f g : Int) (i bt : Int) : Int := oU a b P (plc P f g (i % P - bt % P) (i / P - bt / P)) * oU a b P (plc P f g (i % P - bt % P) (i / P - bt / P)) + oV a b P (plc P f g (i % P - bt % P) (i / P - bt / P)) * oV a b P (plc P f g (i % P - bt % P) (i / P - bt / P))

theorem sq_pos {x : Int} (h : x ≠ 0) : 0 < x * x := by
  rcases Int.lt_or_lt_of_ne h with h | h
  · have := Int.mul_pos_of_neg_of_neg h h; exact this
  · exact Int.mul_pos h h
theorem dsq_ok {a b P f g : Int} (hn : 1 ≤ a * a + b * b ∧ a * a + b * b ≤ 400) (F : Frm a b P f g) {i j : Int} (hi : 0 ≤ i ∧ i < a * a + b * b) (hj : 0 ≤ j ∧ j < a * a + b * b) :
    (0 ≤ dsq a b P f g i j ∧ dsq a b P f g i j ≤ 320000) ∧ (dsq a b P f g i j = 0 ↔ i = j) := by
  have hP := F.pb
  have hg := F.gb
  have ha := F.area
  rw [← ha] at hi hj
  obtain ⟨q1, q2, q3⟩ := plc_diff (f := f) hP.1 hg.1 hi hj
  obtain ⟨h1, h2⟩ := oUV_bd (P := P) (p := plc P f g (i % P - j % P) (i / P - j / P)) hn
  have s1 := sq4 h1 h1
  have s2 := sq4 h2 h2
  have oz := off_zero hn.1 F q1
  unfold dsq
  generalize plc P f g (i % P - j % P) (i / P - j / P) = q at *
  refine ⟨by omega, fun h => ?_, fun h => ?_⟩
  · refine q2 (oz ?_ ?_)
    · refine Decidable.byContradiction fun hc => ?_
      have := sq_pos hc; omega
    · refine Decidable.byContradiction fun hc => ?_
      have := sq_pos hc; omega
  · have h0 := q3 h
    have z1 : oU a b P q = 0 := by
      unfold oU; rw [h0]; simp only [Int.zero_emod, Int.zero_ediv, Int.zero_mul, Int.add_zero]; omega
    have z2 : oV a b P q = 0 := by
      unfold oV; rw [h0]; simp only [Int.zero_emod, Int.zero_ediv, Int.zero_mul, Int.sub_zero]; omega
    rw [z1, z2]; rfl

/-- The best place among the first i: the first of those that are farthest. -/
def bst (ap : List Int) : Nat → Int
  | 0 => -1
  | i + 1 => if 0 < ap.getD i 0 ∧ (bst ap i < 0 ∨ ap.getD (bst ap i).toNat 0 < ap.getD i 0) then (i : Int) else bst ap i

theorem bst_ok {ap : List Int} : ∀ {i : Nat}, (-1 ≤ bst ap i ∧ bst ap i < i) ∧ (0 ≤ bst ap i → 0 < ap.getD (bst ap i).toNat 0) ∧ (bst ap i < 0 → ∀ j, j < i → ¬ 0 < ap.getD j 0) := by
  intro i
  induction i with
  | zero => refine ⟨by simp only [bst]; omega, fun h => ?_, fun _ j hj => by omega⟩; simp only [bst] at h; omega
  | succ i ih =>
    simp only [bst]
    obtain ⟨h1, h2, h3⟩ := ih
    split
    · rename_i h
      exact ⟨by omega, fun _ => by rw [Int.toNat_natCast]; exact h.1, fun h' => by omega⟩
    · rename_i h
      refine ⟨by omega, h2, fun h' j hj => ?_⟩
      rcases Nat.lt_or_ge j i with hj | hj
      · exact h3 h' j hj
      · obtain rfl : j = i := by omega
        exact fun hp => h ⟨hp, .inl h'⟩

/-- The squared distances behind m rounds. -/
def scA (a b P f g : Int) (n : Nat) : Nat → List Int
  | 0 => List.replicate n 1099511627776
  | m + 1 => tab n fun i => min ((scA a b P f g n m).getD i 0) (dsq a b P f g i (bst (scA a b P f g n m) n))
def scB (a b P f g : Int) (n m : Nat) : Int := bst (scA a b P f g n m) n

theorem scA_len {a b P f g : Int} {n m : Nat} : (scA a b P f g n m).length = n := by
  cases m with
  | zero => simp [scA]
  | succ m => simp only [scA]; exact tab_len

theorem sc_ok {a b P f g : Int} (hn : 1 ≤ a * a + b * b ∧ a * a + b * b ≤ 400) (F : Frm a b P f g) {n : Nat} (en : a * a + b * b = n) : ∀ m, m ≤ n →
    (∀ i, i < n → 0 ≤ (scA a b P f g n m).getD i 0 ∧ (scA a b P f g n m).getD i 0 ≤ 1099511627776 ∧ ((scA a b P f g n m).getD i 0 = 0 ↔ ∃ k, k < m ∧ scB a b P f g n k = i)) ∧
    (∀ k, k < m → 0 ≤ scB a b P f g n k ∧ scB a b P f g n k < n) ∧ ∀ k l, k < l → l < m → scB a b P f g n k ≠ scB a b P f g n l := by
  intro m
  induction m with
  | zero =>
    intro _
    refine ⟨fun i hi => ?_, fun k hk => by omega, fun k l h1 h2 => by omega⟩
    simp only [scA]
    rw [getD_repl hi]
    refine ⟨by omega, by omega, fun h => by omega, fun ⟨k, hk, _⟩ => by omega⟩
  | succ m ih =>
    intro hm
    obtain ⟨h1, h2, h3⟩ := ih (by omega)
    obtain ⟨b1, b2, b3⟩ := bst_ok (ap := scA a b P f g n m) (i := n)
    -- there is a place left
    have hB : 0 ≤ scB a b P f g n m := by
      refine Int.not_lt.1 fun hc => ?_
      have none : ∀ j, j < n → ∃ k, k < m ∧ scB a b P f g n k = j := fun j hj => (h1 j hj).2.2.1 (by have := b3 hc j hj; have := (h1 j hj).1; omega)
      -- n places, m < n rounds
      have nd : ((List.range m).map fun k => (scB a b P f g n k).toNat).Nodup := by
        rw [List.nodup_iff_pairwise_ne]
        refine List.pairwise_iff_getElem.2 fun i j hi hj hij => ?_
        simp only [List.length_map, List.length_range] at hi hj
        simp only [List.getElem_map, List.getElem_range]
        have a1 := h2 i hi
        have a2 := h2 j hj
        have a3 := h3 i j hij hj
        omega
      obtain ⟨k0, hk0, _⟩ := none 0 (by omega)
      -- all places are taken: one more than the rounds
      have hle := nd_le n ((List.range m).map fun k => (scB a b P f g n k).toNat) nd fun x hx => by
        obtain ⟨k, hk, rfl⟩ := List.mem_map.1 hx
        have := h2 k (by simpa using hk); omega
      have hsub := nd_le m (List.range n |>.map fun j => (List.range m).findIdx fun k => (scB a b P f g n k).toNat == j) (by
        rw [List.nodup_iff_pairwise_ne]
        refine List.pairwise_iff_getElem.2 fun i j hi hj hij => ?_
        simp only [List.length_map, List.length_range] at hi hj
        simp only [List.getElem_map, List.getElem_range]
        intro e
        have fd : ∀ j, j < n → (List.range m).findIdx (fun k => (scB a b P f g n k).toNat == j) < m ∧ (scB a b P f g n ((List.range m).findIdx fun k => (scB a b P f g n k).toNat == j)).toNat = j := fun j hj => by
          obtain ⟨k, hk, e⟩ := none j hj
          have hlt : (List.range m).findIdx (fun k => (scB a b P f g n k).toNat == j) < (List.range m).length := List.findIdx_lt_length.2 ⟨k, by simpa using hk, by rw [e]; simp⟩
          have := List.findIdx_getElem (w := hlt)
          simp only [List.getElem_range, beq_iff_eq] at this
          exact ⟨by simpa using hlt, this⟩
        have f1 := (fd i hi).2
        have f2 := (fd j hj).2
        rw [e] at f1
        omega) fun x hx => by
          obtain ⟨j, hj, rfl⟩ := List.mem_map.1 hx
          obtain ⟨k, hk, e⟩ := none j (by simpa using hj)
          have hlt : (List.range m).findIdx (fun k => (scB a b P f g n k).toNat == j) < (List.range m).length := List.findIdx_lt_length.2 ⟨k, by simpa using hk, by rw [e]; simp⟩
          simpa using hlt
      simp at hsub
      omega
    have hBn : scB a b P f g n m < n := by unfold scB; omega
    have hpos : 0 < (scA a b P f g n m).getD (scB a b P f g n m).toNat 0 := b2 hB
    have hnew : ∀ k, k < m → scB a b P f g n k ≠ scB a b P f g n m := fun k hk e => by
      have := (h1 (scB a b P f g n m).toNat (by omega)).2.2.2 ⟨k, hk, by rw [e]; omega⟩
      omega
    refine ⟨fun i hi => ?_, fun k hk => ?_, fun k l hkl hl => ?_⟩
    · simp only [scA]
      rw [tab_get hi]
      have hd := dsq_ok hn F (i := (i : Int)) (j := scB a b P f g n m) (by omega) (by omega)
      obtain ⟨g1, g2, g3⟩ := h1 i hi
      change 0 ≤ min _ (dsq a b P f g i (scB a b P f g n m)) ∧ min _ (dsq a b P f g i (scB a b P f g n m)) ≤ _ ∧ (min _ (dsq a b P f g i (scB a b P f g n m)) = 0 ↔ _)
      refine ⟨by omega, by omega, fun h => ?_, fun ⟨k, hk, e⟩ => ?_⟩
      · by_cases h0 : (scA a b P f g n m).getD i 0 = 0
        · obtain ⟨k, hk, e⟩ := g3.1 h0
          exact ⟨k, by omega, e⟩
        · exact ⟨m, by omega, (hd.2.1 (by omega)).symm⟩
      · rcases Nat.lt_or_ge k m with hk' | hk'
        · have := g3.2 ⟨k, hk', e⟩; omega
        · obtain rfl : k = m := by omega
          have := hd.2.2 e.symm; omega
    · rcases Nat.lt_or_ge k m with hk' | hk'
      · exact h2 k hk'
      · obtain rfl : k = m := by omega
        exact ⟨hB, hBn⟩
    · rcases Nat.lt_or_ge l m with hl' | hl'
      · exact h3 k l hkl hl'
      · obtain rfl : l = m := by omega
        exact hnew k hkl

/-- The scattered order is one of all places. -/
def scN (a b P f g : Int) (n : Nat) : List Nat := tab n fun m => (scB a b P f g n m).toNat
theorem scN_perm {a b P f g : Int} (hn : 1 ≤ a * a + b * b ∧ a * a + b * b ≤ 400) (F : Frm a b P f g) {n : Nat} (en : a * a + b * b = n) : (scN a b P f g n).Perm (List.range n) := by
  obtain ⟨_, h2, h3⟩ := sc_ok hn F en n (Nat.le_refl _)
  have nd : (scN a b P f g n).Nodup := by
    unfold scN tab
    rw [List.nodup_iff_pairwise_ne]
    refine List.pairwise_iff_getElem.2 fun i j hi hj hij => ?_
    simp only [List.length_map, List.length_range] at hi hj
    simp only [List.getElem_map, List.getElem_range]
    have a1 := h2 i hi
    have a2 := h2 j hj
    have a3 := h3 i j hij hj
    omega
  have sub : (scN a b P f g n) ⊆ List.range n := fun x hx => by
    obtain ⟨m, hm, rfl⟩ := List.mem_map.1 hx
    have := h2 m (by simpa using hm)
    simp; omega
  exact nd_perm nd (fun x hx => by simpa using sub hx) (by simp [scN, tab])
end Go.Proofs.Ytagfanbodglplaa
