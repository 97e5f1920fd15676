/- Merged: Sheet4 Sheet5 Bits4 Sheet6. -/
import Derived.Test.YtagfanbodglplaaSheet3
import Derived.Test.YtagfanbodglplaaGo
import Derived.Test.YtagfanbodglplaaXTopCalibrated0
namespace Go.Proofs.Ytagfanbodglplaa
open Go Go.Lite
set_option linter.unusedVariables false
set_option linter.unusedSimpArgs false
set_option maxRecDepth 100000
set_option maxHeartbeats 4000000
-- @simp rdi rdy rd2i

abbrev Bt := Int × Int × List Int
abbrev dBt : Bt := R.d E2iLyJ
noncomputable def btE (b : Bt) : Int := bitsE b.1 b.2.1 b.2.2
def shOk (l : List Bt) : Prop := 1 ≤ l.length ∧ l.length ≤ 8 ∧ ∀ t, t < l.length → btE (l.getD t dBt) = 0 ∧ (l.getD t dBt).1 = (l.getD 0 dBt).1 ∧ (l.getD t dBt).2.1 = (l.getD 0 dBt).2.1
def bytesOk (l : List Bt) : Prop := ∀ t, t < l.length → ∀ i, i < (l.getD t dBt).2.2.length → 0 ≤ (l.getD t dBt).2.2.getD i 0 ∧ (l.getD t dBt).2.2.getD i 0 ≤ 255

def fstN (f : Nat → Int) : Nat → Int
  | 0 => 0
  | n + 1 => if fstN f n = 0 then f n else fstN f n
theorem fstN_zero {f : Nat → Int} : ∀ {n : Nat}, (∀ t, t < n → f t = 0) → fstN f n = 0
  | 0, _ => rfl
  | n + 1, h => by simp only [fstN]; rw [if_pos (fstN_zero fun t ht => h t (by omega))]; exact h n (by omega)
theorem fstN_all {f : Nat → Int} : ∀ {n : Nat}, fstN f n = 0 → ∀ t, t < n → f t = 0
  | 0, _ => fun t ht => by omega
  | n + 1, h => fun t ht => by
    simp only [fstN] at h
    split at h
    · rename_i h0
      by_cases e : t = n
      · subst e; exact h
      · exact fstN_all h0 t (by omega)
    · rename_i h0; exact absurd h h0
theorem fstN_at {f : Nat → Int} {i : Nat} (h0 : ∀ t, t < i → f t = 0) (h : f i ≠ 0) : ∀ {n : Nat}, i < n → fstN f n = f i
  | 0, hi => by omega
  | n + 1, hi => by
    simp only [fstN]
    by_cases e : i = n
    · subst e; rw [if_pos (fstN_zero h0)]
    · rw [fstN_at h0 h (n := n) (by omega), if_neg h]
noncomputable def elE (l : List Bt) (t : Nat) : Int := if btE (l.getD t dBt) = 0 then (if (l.getD t dBt).1 = (l.getD 0 dBt).1 ∧ (l.getD t dBt).2.1 = (l.getD 0 dBt).2.1 then 0 else 4) else btE (l.getD t dBt)
theorem elE_ok {l : List Bt} {t : Nat} : elE l t = 0 ↔ btE (l.getD t dBt) = 0 ∧ (l.getD t dBt).1 = (l.getD 0 dBt).1 ∧ (l.getD t dBt).2.1 = (l.getD 0 dBt).2.1 := by
  unfold elE
  split
  · rename_i h
    split
    · rename_i h2; exact ⟨fun _ => ⟨h, h2⟩, fun _ => rfl⟩
    · rename_i h2; exact ⟨fun h3 => (by cases h3), fun h3 => absurd h3.2 h2⟩
  · rename_i h; exact ⟨fun h3 => absurd h3 h, fun h3 => absurd h3.1 h⟩
noncomputable def shE (l : List Bt) : Int := if 8 < l.length then 2 else if l.length = 0 then 1 else fstN (elE l) l.length
theorem shE_ok {l : List Bt} : shE l = 0 ↔ shOk l := by
  unfold shE
  split
  · exact ⟨fun h => (by cases h), fun h => by have := h.2.1; omega⟩
  split
  · exact ⟨fun h => (by cases h), fun h => by have := h.1; omega⟩
  · exact ⟨fun h => ⟨by omega, by omega, fun t ht => elE_ok.1 (fstN_all h t ht)⟩, fun h => fstN_zero fun t ht => elE_ok.2 (h.2.2 t ht)⟩

theorem bor_top {a : Int} {i : Nat} (h : 0 ≤ a ∧ a < 2 ^ i) : bor a (2 ^ i) = a + 2 ^ i := by
  obtain ⟨n, rfl⟩ : ∃ n : Nat, a = n := ⟨a.toNat, by omega⟩
  have h2 : ((2 ^ i : Nat) : Int) = (2 : Int) ^ i := by simp
  have hn : n < 2 ^ i := by omega
  unfold bor
  rw [← h2, Int.toNat_natCast, Int.toNat_natCast]
  have := Nat.two_pow_add_eq_or_of_lt hn 1
  rw [Nat.mul_one] at this
  rw [Nat.or_comm, ← this]; omega

def bytes (l : List Int) : Prop := ∀ i, i < l.length → 0 ≤ l.getD i 0 ∧ l.getD i 0 ≤ 255
end Go.Proofs.Ytagfanbodglplaa
namespace Go.Proofs.Ytagfanbodglplaa
open Go Go.Lite
set_option linter.unusedVariables false
set_option linter.unusedSimpArgs false
set_option maxRecDepth 100000
set_option maxHeartbeats 4000000
-- @simp rdi rdy rd2i

/-- The set of the first i inks at a pixel. -/
def setG (w : Nat) (P : Nat → Nat → Nat → Bool) (j : Nat) (i : Nat) : Int := sumN (fun t => if P t (j % w) (j / w) then 2 ^ t else 0) i
theorem setG_bd (w : Nat) (P : Nat → Nat → Nat → Bool) (j : Nat) : ∀ i, 0 ≤ setG w P j i ∧ setG w P j i < 2 ^ i := by
  intro i
  induction i with
  | zero => simp [setG, sumN]
  | succ i ih =>
    have e : setG w P j (i + 1) = setG w P j i + if P i (j % w) (j / w) then 2 ^ i else 0 := rfl
    rw [e, Int.pow_succ]
    split <;> omega
/-- The sets while ink i is printed: it is on the first m pixels. -/
def mixG (w k : Nat) (P : Nat → Nat → Nat → Bool) (i m : Nat) : List Int := tab (w * k) fun j => setG w P j (if j < m then i + 1 else i)
theorem mixG_len {w k : Nat} {P : Nat → Nat → Nat → Bool} {i m : Nat} : (mixG w k P i m).length = w * k := tab_len
theorem mixG_get {w k : Nat} {P : Nat → Nat → Nat → Bool} {i m : Nat} (h : m < w * k) : (mixG w k P i m).getD m 0 = setG w P m i := by
  unfold mixG; rw [tab_get h, if_neg (by omega)]
theorem mixG_zero {w k : Nat} {P : Nat → Nat → Nat → Bool} {i : Nat} : mixG w k P i 0 = tab (w * k) fun j => setG w P j i := by
  unfold mixG; exact ext_getD 0 (by simp [tab_len]) fun j hj => by rw [tab_len] at hj; rw [tab_get hj, tab_get hj, if_neg (by omega)]
theorem mixG_all {w k : Nat} {P : Nat → Nat → Nat → Bool} {i : Nat} : mixG w k P i (w * k) = mixG w k P (i + 1) 0 := by
  rw [mixG_zero]
  unfold mixG; exact ext_getD 0 (by simp [tab_len]) fun j hj => by rw [tab_len] at hj; rw [tab_get hj, tab_get hj, if_pos hj]
theorem mixG_yes {w k : Nat} {P : Nat → Nat → Nat → Bool} {i m x y : Nat} (hm : m = y * w + x) (hx : x < w) (hy : y < k) (h : P i x y = true) : (mixG w k P i m).set m (bor ((mixG w k P i m).getD m 0) (2 ^ i)) = mixG w k P i (m + 1) := by
  obtain ⟨e1, e2⟩ := (lin_key (w := w) (i := m) (by omega) hx).1 hm.symm
  have hlt : m < w * k := by
    have h2 : (y + 1) * w ≤ k * w := Nat.mul_le_mul_right _ hy
    rw [Nat.mul_comm w k]
    rw [Nat.add_mul] at h2
    omega
  have en : setG w P m (i + 1) = setG w P m i + 2 ^ i := by
    show setG w P m i + (if P i (m % w) (m / w) then 2 ^ i else 0) = _
    rw [← e1, ← e2, h]; rfl
  rw [mixG_get hlt, bor_top (setG_bd w P m i), ← en]
  refine ext_getD 0 (by simp [mixG_len]) fun j hj => ?_
  rw [List.length_set, mixG_len] at hj
  by_cases e : m = j
  · subst e
    rw [getD_set_eq (by rw [mixG_len]; exact hj)]
    unfold mixG; rw [tab_get hj, if_pos (by omega)]
  · rw [getD_set_ne e]
    unfold mixG; rw [tab_get hj, tab_get hj]
    congr 1
    by_cases e2 : j < m
    · rw [if_pos e2, if_pos (by omega)]
    · rw [if_neg e2, if_neg (by omega)]
theorem mixG_no {w k : Nat} {P : Nat → Nat → Nat → Bool} {i m x y : Nat} (hm : m = y * w + x) (hx : x < w) (h : P i x y = false) : mixG w k P i m = mixG w k P i (m + 1) := by
  obtain ⟨e1, e2⟩ := (lin_key (w := w) (i := m) (by omega) hx).1 hm.symm
  have en : setG w P m (i + 1) = setG w P m i := by
    show setG w P m i + (if P i (m % w) (m / w) then 2 ^ i else 0) = _
    rw [← e1, ← e2, h]; simp
  refine ext_getD 0 (by simp [mixG_len]) fun j hj => ?_
  rw [mixG_len] at hj
  unfold mixG; rw [tab_get hj, tab_get hj]
  by_cases e : j = m
  · subst e; rw [if_neg (by omega), if_pos (by omega), en]
  · congr 1
    by_cases e2 : j < m
    · rw [if_pos e2, if_pos (by omega)]
    · rw [if_neg e2, if_neg (by omega)]

theorem mixG_bytes {w k : Nat} {P : Nat → Nat → Nat → Bool} {i m : Nat} (h : i < 8) : bytes (mixG w k P i m) := by
  intro j hj
  rw [mixG_len] at hj
  unfold mixG
  rw [tab_get hj]
  have hp : ∀ n : Nat, n ≤ 8 → (2 : Int) ^ n ≤ 256 := fun n hn => by
    have : (2 : Nat) ^ n ≤ 2 ^ 8 := Nat.pow_le_pow_right (by omega) hn
    have h2 : ((2 ^ n : Nat) : Int) = (2 : Int) ^ n := by simp
    omega
  have := setG_bd w P j (if j < m then i + 1 else i)
  have h2 := hp (if j < m then i + 1 else i) (by split <;> omega)
  omega
end Go.Proofs.Ytagfanbodglplaa
namespace Go.Proofs.Ytagfanbodglplaa
open Go Go.Lite
set_option linter.unusedVariables false
set_option linter.unusedSimpArgs false
set_option maxRecDepth 100000
set_option maxHeartbeats 4000000
-- @simp rdi rdy

/-- One step of growth. -/
def g1 (w k : Nat) (D : List Int) (x y : Nat) : Bool := px w k D x y || px w k D (x - 1 : Int) y || px w k D (x + 1 : Int) y || px w k D x (y - 1 : Int) || px w k D x (y + 1 : Int)
def grD (w k : Nat) : Nat → List Int → List Int
  | 0, D => D
  | n + 1, D => bm w k (g1 w k (grD w k n D))
theorem grD_ok {w k : Nat} {D : List Int} (ok : BmOk w k D) : ∀ n, BmOk w k (grD w k n D)
  | 0 => ok
  | n + 1 => bm_ok ok.w1 ok.h1
theorem grown1_c (w k : Nat) (D : List Int) (x y : Nat) (ok : BmOk w k D) (hx : x < w) (hy : y < k) :
    TC R Try.prog bitmap_Grown_1_f [.int .i64 x, .int .i64 y, .pel [.int .i64 w, .int .i64 k, .lst Ey D]] [] (fun v X => v = .bool (g1 w k D x y) ∧ X = []) := by
  have hw := ok.w1
  have hh := ok.h1
  have c1 := is_c w k D x y ok
  have c2 := is_c w k D (x - 1 : Int) y ok
  have c3 := is_c w k D (x + 1 : Int) y ok
  have c4 := is_c w k D x (y - 1 : Int) ok
  have c5 := is_c w k D x (y + 1 : Int) ok
  refine tc0 env bitmap_Grown_1_s (by rfl) ?_
  dsimp only [bitmap_Grown_1_c]
  unfold g1
  cases h1 : px w k D x y
  · cases h2 : px w k D (x - 1 : Int) y
    · cases h3 : px w k D (x + 1 : Int) y
      · cases h4 : px w k D x (y - 1 : Int)
        · rw [h1] at c1; rw [h2] at c2; rw [h3] at c3; rw [h4] at c4
          repeat' (first
            | ((with_reducible refine TOps.any ?_); refine TOps.callV env (by rfl) (by rfl) (by rfl) (c1) ?_)
            | ((with_reducible refine TOps.any ?_); refine TOps.callV env (by rfl) (by rfl) (by rfl) (c2) ?_)
            | ((with_reducible refine TOps.any ?_); refine TOps.callV env (by rfl) (by rfl) (by rfl) (c3) ?_)
            | ((with_reducible refine TOps.any ?_); refine TOps.callV env (by rfl) (by rfl) (by rfl) (c4) ?_)
            | ((with_reducible refine TOps.any ?_); refine TOps.callV env (by rfl) (by rfl) (by rfl) (c5) ?_)
            | refine GZp_i_y ?_ ?_ ?_ ?_ ?_ ?_ ?_ ?_
            | with_reducible first | exact BzZq.mk | refine Tw.ret ?_ | refine ImZq.i fun h => ?_ | refine IkZq.i fun hk => ?_)
          exact ⟨rfl, rfl, rfl⟩
        · rw [h1] at c1; rw [h2] at c2; rw [h3] at c3; rw [h4] at c4
          repeat' (first
            | ((with_reducible refine TOps.any ?_); refine TOps.callV env (by rfl) (by rfl) (by rfl) (c1) ?_)
            | ((with_reducible refine TOps.any ?_); refine TOps.callV env (by rfl) (by rfl) (by rfl) (c2) ?_)
            | ((with_reducible refine TOps.any ?_); refine TOps.callV env (by rfl) (by rfl) (by rfl) (c3) ?_)
            | ((with_reducible refine TOps.any ?_); refine TOps.callV env (by rfl) (by rfl) (by rfl) (c4) ?_)
            | refine GZp_i_y ?_ ?_ ?_ ?_ ?_ ?_ ?_ ?_
            | with_reducible first | exact BzZq.mk | refine Tw.ret ?_ | refine ImZq.i fun h => ?_ | refine IkZq.i fun hk => ?_)
          exact ⟨rfl, rfl, rfl⟩
      · rw [h1] at c1; rw [h2] at c2; rw [h3] at c3
        repeat' (first
          | ((with_reducible refine TOps.any ?_); refine TOps.callV env (by rfl) (by rfl) (by rfl) (c1) ?_)
          | ((with_reducible refine TOps.any ?_); refine TOps.callV env (by rfl) (by rfl) (by rfl) (c2) ?_)
          | ((with_reducible refine TOps.any ?_); refine TOps.callV env (by rfl) (by rfl) (by rfl) (c3) ?_)
          | refine GZp_i_y ?_ ?_ ?_ ?_ ?_ ?_ ?_ ?_
          | with_reducible first | exact BzZq.mk | refine Tw.ret ?_ | refine ImZq.i fun h => ?_ | refine IkZq.i fun hk => ?_)
        exact ⟨rfl, rfl, rfl⟩
    · rw [h1] at c1; rw [h2] at c2
      repeat' (first
        | ((with_reducible refine TOps.any ?_); refine TOps.callV env (by rfl) (by rfl) (by rfl) (c1) ?_)
        | ((with_reducible refine TOps.any ?_); refine TOps.callV env (by rfl) (by rfl) (by rfl) (c2) ?_)
        | refine GZp_i_y ?_ ?_ ?_ ?_ ?_ ?_ ?_ ?_
        | with_reducible first | exact BzZq.mk | refine Tw.ret ?_ | refine ImZq.i fun h => ?_ | refine IkZq.i fun hk => ?_)
      exact ⟨rfl, rfl, rfl⟩
  · rw [h1] at c1
    repeat' (first
      | ((with_reducible refine TOps.any ?_); refine TOps.callV env (by rfl) (by rfl) (by rfl) (c1) ?_)
      | refine GZp_i_y ?_ ?_ ?_ ?_ ?_ ?_ ?_ ?_
      | with_reducible first | exact BzZq.mk | refine Tw.ret ?_ | refine ImZq.i fun h => ?_ | refine IkZq.i fun hk => ?_)
    exact ⟨rfl, rfl, rfl⟩

/-! ### Turns -/
end Go.Proofs.Ytagfanbodglplaa
namespace Go.Proofs.Ytagfanbodglplaa
open Go Go.Lite
set_option linter.unusedVariables false
set_option linter.unusedSimpArgs false
set_option maxRecDepth 100000
set_option maxHeartbeats 4000000
-- @simp rdi rdy rd2i

theorem fromGrownR_h (w k : Nat) (a b : Int) (d : List Int) (g : Nat → Nat → Bool) (hw : Due (1 ≤ w ∧ w ≤ 1024)) (hk : Due (1 ≤ k ∧ k ≤ 1024))
    (hf : ∀ x y : Nat, x < w → y < k → TC R Try.prog bitmap_Grown_1_f [.int .i64 x, .int .i64 y, .pel [.int .i64 a, .int .i64 b, .lst Ey d]] [] (fun v X => v = .bool (g x y) ∧ X = [])) :
    TC R Try.prog bitmap_from_f [.int .i64 w, .int .i64 k, .fn bitmap_Grown_1_f [.ptr 0 0]] [some (.cells [.int .i64 a, .int .i64 b, .lst Ey d])] (fun v X => v = .agg [.int .i64 w, .int .i64 k, .sla 1 1 0 (st w * k)] ∧ X = [some (.cells [.int .i64 a, .int .i64 b, .lst Ey d]), some (.arr Ey (bm w k g))]) := by
  dsimp only [Due] at hw hk
  have hlb := len_bd hw hk
  have sb := st_bd hw
  have bc := blank_c w k hw hk
  rw [bm_congr (g := upto g 0 0) fun x y _ _ => upto_none.symm] at bc
  have raw : TC R Try.prog bitmap_from_f [.int .i64 w, .int .i64 k, .fn bitmap_Grown_1_f [.ptr 0 0]] [some (.cells [.int .i64 a, .int .i64 b, .lst Ey d])] (fun v X => v = .agg [.int .i64 w, .int .i64 k, .sla 1 2 0 (st w * k)] ∧ ∃ a' c', X = [some (.cells [.int .i64 a, .int .i64 b, .lst Ey d]), a', some (.arr Ey (bm w k g)), c']) := by
   refine tc env bitmap_from_s (by rfl) ?_
   dsimp only [bitmap_from_c]
   repeat' (first
     | ((with_reducible refine TOps.any ?_); refine TOps.callV env (by rfl) (by rfl) (by rfl) (bc) ?_)
     | refine GZp_i_y_2i ?_ ?_ ?_ ?_ ?_ ?_ ?_ ?_
     | with_reducible first | exact BzZq.mk | refine Tw.ret ?_ | refine ImZq.i fun h => ?_ | refine IkZq.i fun hk => ?_)
   refine Tw.loopK [0, 1, 2] (fun y : Nat => y ≤ k) (fun y => k - y) (fun y => [(13, .int .i64 k), (14, .int .i64 y), (6, .ptr 1 0), (7, .ptr 3 0)])
     (fun y => [some (.cells [.int .i64 a, .int .i64 b, .lst Ey d]), some (.cells [.int .i64 0, .int .i64 0, .nils]), some (.arr Ey (bm w k (upto g 0 y))), some (.cells [.int .i64 w, .int .i64 k, .sla 1 2 0 (st w * k)])]) ⟨0, by omega, TWk.fcanon env [some 0, some 1, some 2, some 3] (by rfl) ?_⟩ (fun y hy => ?_)
   · repeat' (first
       | refine GZ_i_y_2i ?_ ?_ ?_ ?_ ?_ ?_ ?_ ?_
       | with_reducible first | exact BzZq.mk | refine Tw.ret ?_ | refine ImZq.i fun h => ?_ | refine IkZq.i fun hk => ?_)
   rcases Nat.lt_or_ge y k with hy | hy
   · repeat' (first
       | refine GZp_i_y_2i ?_ ?_ ?_ ?_ ?_ ?_ ?_ ?_
       | with_reducible first | exact BzZq.mk | refine Tw.ret ?_ | refine ImZq.i fun h => ?_ | refine IkZq.i fun hk => ?_)
     refine Tw.loopK [0, 1, 2, 13, 14, 6, 7, 8] (fun x : Nat => x ≤ w) (fun x => w - x) (fun x => [(17, .int .i64 w), (18, .int .i64 x)])
       (fun x => [some (.cells [.int .i64 a, .int .i64 b, .lst Ey d]), some (.cells [.int .i64 0, .int .i64 0, .nils]), some (.arr Ey (bm w k (upto g x y))), some (.cells [.int .i64 w, .int .i64 k, .sla 1 2 0 (st w * k)])]) ⟨0, by omega, TWk.fcanon env [some 0, some 1, some 2, some 3] (by rfl) ?_⟩ (fun x hx => ?_)
     · repeat' (first
         | refine GZ_i_y_2i ?_ ?_ ?_ ?_ ?_ ?_ ?_ ?_
         | with_reducible first | exact BzZq.mk | refine Tw.ret ?_ | refine ImZq.i fun h => ?_ | refine IkZq.i fun hk => ?_)
     rcases Nat.lt_or_ge x w with hx | hx
     · have fc := hf x y hx hy
       have hbd := bm_bd (w := w) (h := k) (f := upto g x y) (at8_lt hx hy)
       have hbl := bm_len (w := w) (h := k) (f := upto g x y)
       have hmk := bm_mark (f := upto g x y) hx hy
       have mc := mark_c w k (bm w k (upto g x y)) x y hw hk hbl hbd hx hy
       rw [hmk] at mc
       cases hg : g x y
       · rw [hg] at fc
         rw [bm_congr fun i j _ _ => upto_no hg i j] at *
         repeat' (first
           | ((with_reducible refine TOps.any ?_); refine TOps.callE env (by rfl) (by rfl) (by rfl) ?_ (fc) (by rfl) ?_)
           | refine GZp_i_y_2i ?_ ?_ ?_ ?_ ?_ ?_ ?_ ?_
           | with_reducible first | exact BzZq.mk | refine Tw.ret ?_ | refine ImZq.i fun h => ?_ | refine IkZq.i fun hk => ?_)
         refine ⟨x + 1, by omega, by omega, TWk.fcanon env [some 0, some 1, some 2, some 3] (by rfl) ?_⟩
         repeat' (first
           | refine GZ_i_y_2i ?_ ?_ ?_ ?_ ?_ ?_ ?_ ?_
           | with_reducible first | exact BzZq.mk | refine Tw.ret ?_ | refine ImZq.i fun h => ?_ | refine IkZq.i fun hk => ?_)
       · rw [hg] at fc
         rw [bm_congr (f := fun i j => upto g x y i j || (decide (i = x) && decide (j = y))) fun i j _ _ => upto_yes hg i j] at mc
         repeat' (first
           | ((with_reducible refine TOps.any ?_); refine TOps.callE env (by rfl) (by rfl) (by rfl) ?_ (fc) (by rfl) ?_)
           | ((with_reducible refine TOps.any ?_); refine TOps.callHE env [3, 2] (mc) (by rfl) (by rfl) (by rfl) (by rfl) (by rfl) (by rfl) (by repeat' (first | exact trivial | refine ⟨rfl, ?_⟩)) ?_)
           | refine GZp_i_y_2i ?_ ?_ ?_ ?_ ?_ ?_ ?_ ?_
           | with_reducible first | exact BzZq.mk | refine Tw.ret ?_ | refine ImZq.i fun h => ?_ | refine IkZq.i fun hk => ?_)
         refine ⟨x + 1, by omega, by omega, TWk.fcanon env [some 0, some 1, some 2, some 3] (by rfl) ?_⟩
         repeat' (first
           | refine GZ_i_y_2i ?_ ?_ ?_ ?_ ?_ ?_ ?_ ?_
           | with_reducible first | exact BzZq.mk | refine Tw.ret ?_ | refine ImZq.i fun h => ?_ | refine IkZq.i fun hk => ?_)
     · obtain rfl : x = w := by omega
       rw [bm_congr fun i j hi _ => upto_row (g := g) (y := y) hi]
       repeat' (first
         | refine GZp_i_y_2i ?_ ?_ ?_ ?_ ?_ ?_ ?_ ?_
         | with_reducible first | exact BzZq.mk | refine Tw.ret ?_ | refine ImZq.i fun h => ?_ | refine IkZq.i fun hk => ?_)
       refine ⟨y + 1, by omega, by omega, TWk.fcanon env [some 0, some 1, some 2, some 3] (by rfl) ?_⟩
       repeat' (first
         | refine GZ_i_y_2i ?_ ?_ ?_ ?_ ?_ ?_ ?_ ?_
         | with_reducible first | exact BzZq.mk | refine Tw.ret ?_ | refine ImZq.i fun h => ?_ | refine IkZq.i fun hk => ?_)
   · obtain rfl : y = k := by omega
     rw [bm_congr fun i j _ hj => upto_all (g := g) hj]
     have hbl := bm_len (w := w) (h := y) (f := g)
     have hle : 0 + st w * y ≤ (bm w y g).length := by omega
     repeat' (first
       | exact hle
       | refine GZp_i_y_2i ?_ ?_ ?_ ?_ ?_ ?_ ?_ ?_
       | with_reducible first | exact BzZq.mk | refine Tw.ret ?_ | refine ImZq.i fun h => ?_ | refine IkZq.i fun hk => ?_)
     exact ⟨rfl, _, _, rfl⟩
  refine raw.wk fun v X h => ?_
  obtain ⟨rfl, a', c', rfl⟩ := h
  refine ⟨_, [some (.cells [.int .i64 a, .int .i64 b, .lst Ey d]), some (.arr Ey (bm w k g))], TWk.fcanon env [some 0, some 2] (F' := [(0, .agg [.int .i64 w, .int .i64 k, .sla 1 1 0 (st w * k)])]) (by rfl) ?_, rfl, rfl⟩
  repeat' (first
    | refine GZ_i_y_2i ?_ ?_ ?_ ?_ ?_ ?_ ?_ ?_
    | with_reducible first | exact BzZq.mk | refine Tw.ret ?_ | refine ImZq.i fun h => ?_ | refine IkZq.i fun hk => ?_)
theorem grownP_c (w k : Nat) (D : List Int) (n : Nat) (ok : Due (BmOk w k D)) (hn : Due (n ≤ 1000)) :
    TC R Try.prog bitmap_Grown_f [.pel [.int .i64 w, .int .i64 k, .lst Ey D], .int .i64 n] [] (fun v X => v = .agg [.int .i64 w, .int .i64 k, .sla 1 0 0 (st w * k)] ∧ X = [some (.arr Ey (grD w k n D))]) := by
  dsimp only [Due] at ok hn
  have hlb := len_bd ok.w1 ok.h1
  have hl := ok.len
  have raw : TC R Try.prog bitmap_Grown_f [.pel [.int .i64 w, .int .i64 k, .lst Ey D], .int .i64 n] [] (fun v X => v = .agg [.int .i64 w, .int .i64 k, .sla 1 1 0 (st w * k)] ∧ ∃ a b, X = [a, some (.arr Ey (grD w k n D)), b]) := by
    refine tc env bitmap_Grown_s (by rfl) ?_
    dsimp only [bitmap_Grown_c]
    have e0 : grD w k 0 D = cut D 0 D.length := cut_full.symm
    repeat' (first
      | refine GZp_i_y_2i ?_ ?_ ?_ ?_ ?_ ?_ ?_ ?_
      | with_reducible first | exact BzZq.mk | refine Tw.ret ?_ | refine ImZq.i fun h => ?_ | refine IkZq.i fun hk => ?_)
    refine Tw.loopK [] (fun i : Nat => i ≤ n) (fun i => n - i) (fun i => [(16, .int .i64 n), (17, .int .i64 i), (4, .ptr 0 0), (5, .ptr 2 0)])
      (fun i => [some (.cells [.int .i64 0, .int .i64 0, .nils]), some (.arr Ey (grD w k i D)), some (.cells [.int .i64 w, .int .i64 k, .sla 1 1 0 (st w * k)])]) ⟨0, by omega, TWk.fcanon env [some 0, some 2, some 1] (by rfl) ?_⟩ (fun i hi => ?_)
    · repeat' (first
        | exact e0
        | refine GZx_i_y_2i hl ?_ ?_ ?_ ?_ ?_ ?_ ?_ ?_
        | with_reducible first | exact BzZq.mk | refine Tw.ret ?_ | refine ImZq.i fun h => ?_ | refine IkZq.i fun hk => ?_)
    have oki := grD_ok ok i
    have li := oki.len
    rcases Nat.lt_or_ge i n with hi | hi
    · have fc := fromGrownR_h w k w k (grD w k i D) (g1 w k (grD w k i D)) ok.w1 ok.h1 fun x y hx hy => grown1_c w k _ x y oki hx hy
      refine Tw.frz env 1 (by rfl) (by rfl) (by rfl) ?_ ?_ ?_
      · repeat' (first
          | refine GZx_i_y_2i li ?_ ?_ ?_ ?_ ?_ ?_ ?_ ?_
          | with_reducible first | exact BzZq.mk | refine Tw.ret ?_ | refine ImZq.i fun h => ?_ | refine IkZq.i fun hk => ?_)
      · repeat' (first
          | refine GZx_i_y_2i li ?_ ?_ ?_ ?_ ?_ ?_ ?_ ?_
          | with_reducible first | exact BzZq.mk | refine Tw.ret ?_ | refine ImZq.i fun h => ?_ | refine IkZq.i fun hk => ?_)
      rw [cut_all li.symm]
      repeat' (first
        | ((with_reducible refine TOps.any ?_); refine TOps.callHE env [3] (fc) (by rfl) (by rfl) (by rfl) (by rfl) (by rfl) (by rfl) (by repeat' (first | exact trivial | refine ⟨rfl, ?_⟩)) ?_)
        | refine GZp_i_y_2i ?_ ?_ ?_ ?_ ?_ ?_ ?_ ?_
        | with_reducible first | exact BzZq.mk | refine Tw.ret ?_ | refine ImZq.i fun h => ?_ | refine IkZq.i fun hk => ?_)
      refine ⟨i + 1, by omega, by omega, TWk.fcanon env [some 0, some 4, some 2] (by rfl) ?_⟩
      repeat' (first
        | refine GZ_i_y_2i ?_ ?_ ?_ ?_ ?_ ?_ ?_ ?_
        | with_reducible first | exact BzZq.mk | refine Tw.ret ?_ | refine ImZq.i fun h => ?_ | refine IkZq.i fun hk => ?_)
    · obtain rfl : i = n := by omega
      repeat' (first
        | refine GZp_i_y_2i ?_ ?_ ?_ ?_ ?_ ?_ ?_ ?_
        | with_reducible first | exact BzZq.mk | refine Tw.ret ?_ | refine ImZq.i fun h => ?_ | refine IkZq.i fun hk => ?_)
      exact ⟨rfl, _, _, rfl⟩
  refine raw.wk fun v X h => ?_
  obtain ⟨rfl, a, b, rfl⟩ := h
  refine ⟨_, [some (.arr Ey (grD w k n D))], TWk.fcanon env [some 1] (F' := [(0, .agg [.int .i64 w, .int .i64 k, .sla 1 0 0 (st w * k)])]) (by rfl) ?_, rfl, rfl⟩
  repeat' (first
    | refine GZ_i_y_2i ?_ ?_ ?_ ?_ ?_ ?_ ?_ ?_
    | with_reducible first | exact BzZq.mk | refine Tw.ret ?_ | refine ImZq.i fun h => ?_ | refine IkZq.i fun hk => ?_)

theorem shCheck_g (l : List Bt) (gs : List Int) (ss : List (Int × Int)) (hb : bytesOk l) (hl : l.length ≤ 9223372036854775807) (gl : gs.length = l.length) (sl : ss.length = l.length) (gz : ∀ i, i < l.length → 0 ≤ gs.getD i 0 ∧ gs.getD i 0 ≤ 16) (sz : ∀ i, i < l.length → -1024 ≤ (ss.getD i (0, 0)).1 ∧ (ss.getD i (0, 0)).1 ≤ 1024 ∧ -1024 ≤ (ss.getD i (0, 0)).2 ∧ (ss.getD i (0, 0)).2 ≤ 1024) :
    TC R Try.prog sheet_check_f [.lst E2iLyJ l, .lst Ei gs, .lst E2i ss] [] (fun v X => v = .int .i64 (shE l) ∧ X = []) := by
  refine tc0 env sheet_check_s (by rfl) ?_
  dsimp only [sheet_check_c]
  by_cases h8 : 8 < l.length
  · rw [show shE l = 2 by unfold shE; rw [if_pos h8]]
    repeat' (first
      | refine GZp_i_y_2i ?_ ?_ ?_ ?_ ?_ ?_ ?_ ?_
      | with_reducible first | exact BzZq.mk | refine Tw.ret ?_ | refine ImZq.i fun h => ?_ | refine IkZq.i fun hk => ?_)
    exact ⟨rfl, rfl, rfl⟩
  by_cases h0 : l.length = 0
  · rw [show shE l = 1 by unfold shE; rw [if_neg h8, if_pos h0]]
    repeat' (first
      | refine GZp_i_y_2i ?_ ?_ ?_ ?_ ?_ ?_ ?_ ?_
      | with_reducible first | exact BzZq.mk | refine Tw.ret ?_ | refine ImZq.i fun h => ?_ | refine IkZq.i fun hk => ?_)
    exact ⟨rfl, rfl, rfl⟩
  rw [show shE l = fstN (elE l) l.length by unfold shE; rw [if_neg h8, if_neg h0]]
  repeat' (first
    | refine GZy_i_y_2i (And.intro gl sl) ?_ ?_ ?_ ?_ ?_ ?_ ?_ ?_
    | with_reducible first | exact BzZq.mk | refine Tw.ret ?_ | refine ImZq.i fun h => ?_ | refine IkZq.i fun hk => ?_)
  refine Tw.loopK [0, 1, 2, 32, 33] (fun i : Nat => i ≤ l.length ∧ ∀ t, t < i → elE l t = 0) (fun i => l.length - i) (fun i => [(34, .int .i64 i)]) (fun _ => []) ⟨0, ⟨by omega, fun t ht => by omega⟩, TWk.fcanon env [] (by rfl) ?_⟩ (fun i hi => ?_)
  · repeat' (first
      | refine GZ_i_y_2i ?_ ?_ ?_ ?_ ?_ ?_ ?_ ?_
      | with_reducible first | exact BzZq.mk | refine Tw.ret ?_ | refine ImZq.i fun h => ?_ | refine IkZq.i fun hk => ?_)
  obtain ⟨hi, hq⟩ := hi
  rcases Nat.lt_or_ge i l.length with hi | hi
  · have bc := bCheck_c (l.getD i dBt).1 (l.getD i dBt).2.1 (l.getD i dBt).2.2 (hb i hi)
    have gz' := gz i hi
    have sz1 := sz i hi
    by_cases he : btE (l.getD i dBt) = 0
    · rw [show bitsE (l.getD i dBt).1 (l.getD i dBt).2.1 (l.getD i dBt).2.2 = 0 from he] at bc
      by_cases hw : (l.getD i dBt).1 = (l.getD 0 dBt).1 ∧ (l.getD i dBt).2.1 = (l.getD 0 dBt).2.1
      · repeat' (first
          | ((with_reducible refine TOps.any ?_); refine TOps.callV env (by rfl) (by rfl) (by rfl) (bc) ?_)
          | refine GZp_i_y_2i ?_ ?_ ?_ ?_ ?_ ?_ ?_ ?_
          | with_reducible first | exact BzZq.mk | refine Tw.ret ?_ | refine ImZq.i fun h => ?_ | refine IkZq.i fun hk => ?_)
        · exfalso
          rcases h with h | h
          · exact h hw.1
          · exact h hw.2
        · refine ⟨i + 1, ⟨by omega, fun t ht => ?_⟩, by omega, TWk.fcanon env [] (by rfl) ?_⟩
          · by_cases e : t = i
            · subst e; exact elE_ok.2 ⟨he, hw⟩
            · exact hq t (by omega)
          · repeat' (first
              | refine GZ_i_y_2i ?_ ?_ ?_ ?_ ?_ ?_ ?_ ?_
              | with_reducible first | exact BzZq.mk | refine Tw.ret ?_ | refine ImZq.i fun h => ?_ | refine IkZq.i fun hk => ?_)
      · have e4 : elE l i = 4 := by unfold elE; rw [if_pos he, if_neg hw]
        rw [fstN_at hq (by rw [e4]; decide) hi, e4]
        repeat' (first
          | ((with_reducible refine TOps.any ?_); refine TOps.callV env (by rfl) (by rfl) (by rfl) (bc) ?_)
          | refine GZp_i_y_2i ?_ ?_ ?_ ?_ ?_ ?_ ?_ ?_
          | with_reducible first | exact BzZq.mk | refine Tw.ret ?_ | refine ImZq.i fun h => ?_ | refine IkZq.i fun hk => ?_)
        all_goals first | exact ⟨rfl, rfl, rfl⟩ | (exfalso; exact hw h)
    · have e4 : elE l i = bitsE (l.getD i dBt).1 (l.getD i dBt).2.1 (l.getD i dBt).2.2 := by unfold elE; rw [if_neg he]; rfl
      rw [fstN_at hq (by rw [e4]; exact he) hi, e4]
      repeat' (first
        | ((with_reducible refine TOps.any ?_); refine TOps.callV env (by rfl) (by rfl) (by rfl) (bc) ?_)
        | refine GZp_i_y_2i ?_ ?_ ?_ ?_ ?_ ?_ ?_ ?_
        | with_reducible first | exact BzZq.mk | refine Tw.ret ?_ | refine ImZq.i fun h => ?_ | refine IkZq.i fun hk => ?_)
      exact ⟨rfl, rfl, rfl⟩
  · rw [fstN_zero fun t ht => hq t (by omega)]
    repeat' (first
      | refine GZp_i_y_2i ?_ ?_ ?_ ?_ ?_ ?_ ?_ ?_
      | with_reducible first | exact BzZq.mk | refine Tw.ret ?_ | refine ImZq.i fun h => ?_ | refine IkZq.i fun hk => ?_)
    exact ⟨rfl, rfl, rfl⟩
theorem shCheck_h (l : List Bt) (gs : List Int) (ss : List (Int × Int)) (hb : bytesOk l) (gl : gs.length = l.length) (sl : ss.length = l.length) (gz : ∀ i, i < l.length → 0 ≤ gs.getD i 0 ∧ gs.getD i 0 ≤ 16) (sz : ∀ i, i < l.length → -1024 ≤ (ss.getD i (0, 0)).1 ∧ (ss.getD i (0, 0)).1 ≤ 1024 ∧ -1024 ≤ (ss.getD i (0, 0)).2 ∧ (ss.getD i (0, 0)).2 ≤ 1024) (h : shOk l) :
    TC R Try.prog sheet_check_f [.lst E2iLyJ l, .lst Ei gs, .lst E2i ss] [] (fun v X => v = .int .i64 0 ∧ X = []) := by
  have := shCheck_g l gs ss hb (by have := h.2.1; omega) gl sl gz sz
  rw [shE_ok.2 h] at this
  exact this
theorem print_g (w k : Nat) (l : List Bt) (gs : List Int) (ss : List (Int × Int)) (hb : bytesOk l) (gl : gs.length = l.length) (sl : ss.length = l.length) (gz : ∀ i, i < l.length → 0 ≤ gs.getD i 0 ∧ gs.getD i 0 ≤ 16) (sz : ∀ i, i < l.length → -1024 ≤ (ss.getD i (0, 0)).1 ∧ (ss.getD i (0, 0)).1 ≤ 1024 ∧ -1024 ≤ (ss.getD i (0, 0)).2 ∧ (ss.getD i (0, 0)).2 ≤ 1024) (h : shOk l) (P : Nat → Nat → Nat → Bool)
    (hP : ∀ i x y, i < l.length → P i x y = px w k (grD w k (gs.getD i 0).toNat (l.getD i dBt).2.2) ((x : Int) - (ss.getD i (0, 0)).1) ((y : Int) - (ss.getD i (0, 0)).2))
    (h0 : ∀ t, t < l.length → (l.getD t dBt).1 = w ∧ (l.getD t dBt).2.1 = k ∧ BmOk w k (l.getD t dBt).2.2) :
    TC R Try.prog sheet_Print_f [.lst E2iLyJ l, .lst Ei gs, .lst E2i ss] [] (fun v X => v = .tup [.agg [.int .i64 w, .int .i64 k, .sla 1 0 0 (w * k)], .int .i64 0] ∧ X = [some (.arr Ey (tab (w * k) fun j => setG w P j l.length))]) := by
  have h1 := h.1
  have h8 := h.2.1
  have k0 := (h0 0 (by omega))
  have hw := k0.2.2.w1
  have hk := k0.2.2.h1
  have hwk : w * k ≤ 1024 * 1024 := Nat.mul_le_mul hw.2 hk.2
  have ewk : (w : Int) * k = ((w * k : Nat) : Int) := by simp
  have f1 : -9223372036854775808 ≤ (w : Int) * k ∧ (w : Int) * k ≤ 9223372036854775807 := by rw [ewk]; omega
  have f2 : 0 ≤ (w : Int) * k ∧ (w : Int) * k ≤ (w : Int) * k ∧ (w : Int) * k ≤ 281474976710656 ∧ ((1 : Nat) : Int) * ((w : Int) * k) ≤ 281474976710656 := by rw [ewk]; omega
  have cc := shCheck_h l gs ss hb gl sl gz sz h
  have raw : TC R Try.prog sheet_Print_f [.lst E2iLyJ l, .lst Ei gs, .lst E2i ss] [] (fun v X => v = .tup [.agg [.int .i64 w, .int .i64 k, .sla 1 1 0 (w * k)], .int .i64 0] ∧ ∃ a b, X = [a, some (.arr Ey (tab (w * k) fun j => setG w P j l.length)), b]) := by
    refine tc env sheet_Print_s (by rfl) ?_
    dsimp only [sheet_Print_c]
    have a1 : (l.getD 0 dBt).1 = (w : Int) := k0.1
    have a2 : (l.getD 0 dBt).2.1 = (k : Int) := k0.2.1
    have e0 : (fun j => setG w P j l.length) = fun j => setG w P j l.length := rfl
    rw [← mixG_zero]
    have z0 : List.replicate (w * k) (0 : Int) = mixG w k P 0 0 := by
      rw [mixG_zero]
      exact ext_getD 0 (by simp [tab_len]) fun j hj => by rw [List.length_replicate] at hj; rw [getD_repl hj, tab_get hj]; rfl
    have b1 : -9223372036854775808 ≤ (l.getD 0 dBt).1 * (l.getD 0 dBt).2.1 ∧ (l.getD 0 dBt).1 * (l.getD 0 dBt).2.1 ≤ 9223372036854775807 := by rw [a1, a2]; exact f1
    have b2 : 0 ≤ (l.getD 0 dBt).1 * (l.getD 0 dBt).2.1 ∧ (l.getD 0 dBt).1 * (l.getD 0 dBt).2.1 ≤ (l.getD 0 dBt).1 * (l.getD 0 dBt).2.1 ∧ (l.getD 0 dBt).1 * (l.getD 0 dBt).2.1 ≤ 281474976710656 ∧ ((1 : Nat) : Int) * ((l.getD 0 dBt).1 * (l.getD 0 dBt).2.1) ≤ 281474976710656 := by rw [a1, a2]; exact f2
    repeat' (first
      | exact b1
      | exact b2
      | ((with_reducible refine TOps.any ?_); refine TOps.callV env (by rfl) (by rfl) (by rfl) (cc) ?_)
      | refine GZp_i_y_2i ?_ ?_ ?_ ?_ ?_ ?_ ?_ ?_
      | with_reducible first | exact BzZq.mk | refine Tw.ret ?_ | refine ImZq.i fun h => ?_ | refine IkZq.i fun hk => ?_)
    refine Tw.loopK [0, 1, 2, 41, 42] (fun i : Nat => i ≤ l.length) (fun i => l.length - i) (fun i => [(43, .int .i64 i), (6, .ptr 0 0), (9, .ptr 2 0)])
      (fun i => [some (.cells [.int .i64 0, .int .i64 0, .nils]), some (.arr Ey (mixG w k P i 0)), some (.cells [.int .i64 w, .int .i64 k, .sla 1 1 0 (w * k)])]) ⟨0, by omega, TWk.fcanon env [some 0, some 1, some 2] (by rfl) ?_⟩ (fun i hi => ?_)
    · have zz : List.replicate ((l.getD 0 dBt).1 * (l.getD 0 dBt).2.1).toNat (0 : Int) = mixG w k P 0 0 := by
        rw [a1, a2, ewk, Int.toNat_natCast]; exact z0
      have zl : ((l.getD 0 dBt).1 * (l.getD 0 dBt).2.1).toNat = w * k := by rw [a1, a2, ewk, Int.toNat_natCast]
      rw [← zz]
      repeat' (first
        | refine GZx_i_y_2i (And.intro a1 (And.intro a2 (And.intro ewk zl))) ?_ ?_ ?_ ?_ ?_ ?_ ?_ ?_
        | with_reducible first | exact BzZq.mk | refine Tw.ret ?_ | refine ImZq.i fun h => ?_ | refine IkZq.i fun hk => ?_)
    rcases Nat.lt_or_ge i l.length with hi | hi
    · have hi0 := h0 i hi
      have gz' := gz i hi
      have sz1 := sz i hi
      have okg := grD_ok hi0.2.2 (gs.getD i 0).toNat
      have gc := grownP_c w k (l.getD i dBt).2.2 (gs.getD i 0).toNat (by unfold Due; exact hi0.2.2) (by unfold Due; omega)
      rw [show (((gs.getD i 0).toNat : Nat) : Int) = gs.getD i 0 by omega] at gc
      generalize hG : grD w k (gs.getD i 0).toNat (l.getD i dBt).2.2 = G at *
      have gc : TC R Try.prog bitmap_Grown_f [.pel [.int .i64 (l.getD i dBt).1, .int .i64 (l.getD i dBt).2.1, .lst Ey (l.getD i dBt).2.2], .int .i64 (gs.getD i 0)] [] (fun v X => v = .agg [.int .i64 w, .int .i64 k, .sla 1 0 0 (st w * k)] ∧ X = [some (.arr Ey G)]) := by rw [hi0.1, hi0.2.1]; exact gc
      have ib : ∀ m, (mixG w k P i m).length = w * k := fun m => mixG_len
      have dl := okg.len
      have eb : ∀ m, bytes (mixG w k P i m) := fun m => mixG_bytes (by omega)
      repeat' (first
        | ((with_reducible refine TDr.any ?_); refine TDr.callN env (by first | rfl | assumption) (by rfl) (by rfl) ?_ (gc) (by rfl) (by rfl) ?_)
        | refine GZp_i_y_2i ?_ ?_ ?_ ?_ ?_ ?_ ?_ ?_
        | with_reducible first | exact BzZq.mk | refine Tw.ret ?_ | refine ImZq.i fun h => ?_ | refine IkZq.i fun hk => ?_)
      rw [show mixG w k P i 0 = mixG w k P i (0 * w) by rw [Nat.zero_mul]]
      refine Tw.loopK [0, 1, 2, 41, 42, 43, 6, 9, 10, 11, 55] (fun y : Nat => y ≤ k) (fun y => k - y) (fun y => [(56, .int .i64 y)])
        (fun y => [some (.cells [.int .i64 0, .int .i64 0, .nils]), some (.arr Ey (mixG w k P i (y * w))), some (.cells [.int .i64 w, .int .i64 k, .sla 1 1 0 (w * k)]), some (.arr Ey G), some (.cells [.int .i64 w, .int .i64 k, .sla 1 3 0 (st w * k)])])
        ⟨0, by omega, TWk.fcanon env [some 0, some 1, some 2, some 3, some 4] (by rfl) ?_⟩ (fun y hy => ?_)
      · repeat' (first
          | refine GZ_i_y_2i ?_ ?_ ?_ ?_ ?_ ?_ ?_ ?_
          | with_reducible first | exact BzZq.mk | refine Tw.ret ?_ | refine ImZq.i fun h => ?_ | refine IkZq.i fun hk => ?_)
      rcases Nat.lt_or_ge y k with hy | hy
      · repeat' (first
          | refine GZp_i_y_2i ?_ ?_ ?_ ?_ ?_ ?_ ?_ ?_
          | with_reducible first | exact BzZq.mk | refine Tw.ret ?_ | refine ImZq.i fun h => ?_ | refine IkZq.i fun hk => ?_)
        rw [show mixG w k P i (y * w) = mixG w k P i (y * w + 0) by rw [Nat.add_zero]]
        refine Tw.loopK [0, 1, 2, 41, 42, 43, 6, 9, 10, 11, 55, 56, 12, 60] (fun x : Nat => x ≤ w) (fun x => w - x) (fun x => [(61, .int .i64 x)])
          (fun x => [some (.cells [.int .i64 0, .int .i64 0, .nils]), some (.arr Ey (mixG w k P i (y * w + x))), some (.cells [.int .i64 w, .int .i64 k, .sla 1 1 0 (w * k)]), some (.arr Ey G), some (.cells [.int .i64 w, .int .i64 k, .sla 1 3 0 (st w * k)])])
          ⟨0, by omega, TWk.fcanon env [some 0, some 1, some 2, some 3, some 4] (by rfl) ?_⟩ (fun x hx => ?_)
        · repeat' (first
            | refine GZ_i_y_2i ?_ ?_ ?_ ?_ ?_ ?_ ?_ ?_
            | with_reducible first | exact BzZq.mk | refine Tw.ret ?_ | refine ImZq.i fun h => ?_ | refine IkZq.i fun hk => ?_)
        rcases Nat.lt_or_ge x w with hx | hx
        · have ic : TC R Try.prog bitmap_Is_f [.pel [.int .i64 w, .int .i64 k, .lst Ey (cut G 0 (st w * k))], .int .i64 ((x : Int) - (ss.getD i (0, 0)).1), .int .i64 ((y : Int) - (ss.getD i (0, 0)).2)] [] (fun v X => v = .bool (P i x y) ∧ X = []) := by
            rw [cut_all dl.symm, hP i x y hi, hG]
            exact is_c w k G _ _ okg
          have hlt : y * w + x < w * k := by
            have h2 : (y + 1) * w ≤ k * w := Nat.mul_le_mul_right _ hy
            rw [Nat.mul_comm w k]
            rw [Nat.add_mul] at h2
            omega
          have hc : (y : Int) * w + x = ((y * w + x : Nat) : Int) := by simp
          have bb := eb (y * w + x) (y * w + x) (by rw [ib]; exact hlt)
          by_cases hp : P i x y = true
          · repeat' (first
              | ((with_reducible refine TDr.any ?_); refine TDr.callE env (by first | rfl | assumption) (by rfl) (by rfl) ?_ (ic) (by rfl) (by rfl) ?_)
              | refine GZy_i_y_2i (And.intro hp (And.intro hc ib)) ?_ ?_ ?_ ?_ ?_ ?_ ?_ ?_
              | with_reducible first | exact BzZq.mk | refine Tw.ret ?_ | refine ImZq.i fun h => ?_ | refine IkZq.i fun hk => ?_)
            refine ⟨x + 1, by omega, by omega, TWk.fcanon env [some 0, some 1, some 2, some 3, some 4] (by rfl) ?_⟩
            have e2 : (1 : Int) * 2 ^ i % 256 = 2 ^ i := by
              have : (2 : Nat) ^ i ≤ 2 ^ 7 := Nat.pow_le_pow_right (by omega) (by omega)
              have h2 : ((2 ^ i : Nat) : Int) = (2 : Int) ^ i := by simp
              rw [Int.one_mul, ← h2]
              generalize 2 ^ i = z at *
              omega
            have yes := mixG_yes (m := y * w + x) rfl hx hy hp
            rw [← Nat.add_assoc, ← yes]
            repeat' (first
              | refine GZx_i_y_2i (And.intro hc (And.intro e2 (And.intro Int.toNat_natCast Nat.add_zero))) ?_ ?_ ?_ ?_ ?_ ?_ ?_ ?_
              | with_reducible first | exact BzZq.mk | refine Tw.ret ?_ | refine ImZq.i fun h => ?_ | refine IkZq.i fun hk => ?_)
          · have nx := mixG_no (k := k) (m := y * w + x) (y := y) rfl hx (by simpa using hp)
            rw [nx]
            repeat' (first
              | ((with_reducible refine TDr.any ?_); refine TDr.callE env (by first | rfl | assumption) (by rfl) (by rfl) ?_ (ic) (by rfl) (by rfl) ?_)
              | refine GZy_i_y_2i (And.intro hp hc) ?_ ?_ ?_ ?_ ?_ ?_ ?_ ?_
              | with_reducible first | exact BzZq.mk | refine Tw.ret ?_ | refine ImZq.i fun h => ?_ | refine IkZq.i fun hk => ?_)
            refine ⟨x + 1, by omega, by omega, TWk.fcanon env [some 0, some 1, some 2, some 3, some 4] (by rfl) ?_⟩
            rw [← Nat.add_assoc]
            repeat' (first
              | refine GZ_i_y_2i ?_ ?_ ?_ ?_ ?_ ?_ ?_ ?_
              | with_reducible first | exact BzZq.mk | refine Tw.ret ?_ | refine ImZq.i fun h => ?_ | refine IkZq.i fun hk => ?_)
        · obtain rfl : x = w := by omega
          repeat' (first
            | refine GZp_i_y_2i ?_ ?_ ?_ ?_ ?_ ?_ ?_ ?_
            | with_reducible first | exact BzZq.mk | refine Tw.ret ?_ | refine ImZq.i fun h => ?_ | refine IkZq.i fun hk => ?_)
          rw [show y * x + x = (y + 1) * x by rw [Nat.add_mul, Nat.one_mul]]
          refine ⟨y + 1, by omega, by omega, TWk.fcanon env [some 0, some 1, some 2, some 3, some 4] (by rfl) ?_⟩
          repeat' (first
            | refine GZ_i_y_2i ?_ ?_ ?_ ?_ ?_ ?_ ?_ ?_
            | with_reducible first | exact BzZq.mk | refine Tw.ret ?_ | refine ImZq.i fun h => ?_ | refine IkZq.i fun hk => ?_)
      · obtain rfl : y = k := by omega
        repeat' (first
          | refine GZp_i_y_2i ?_ ?_ ?_ ?_ ?_ ?_ ?_ ?_
          | with_reducible first | exact BzZq.mk | refine Tw.ret ?_ | refine ImZq.i fun h => ?_ | refine IkZq.i fun hk => ?_)
        rw [Nat.mul_comm y w, mixG_all]
        refine ⟨i + 1, by omega, by omega, TWk.fcanon env [some 0, some 1, some 2] (by rfl) ?_⟩
        repeat' (first
          | refine GZ_i_y_2i ?_ ?_ ?_ ?_ ?_ ?_ ?_ ?_
          | with_reducible first | exact BzZq.mk | refine Tw.ret ?_ | refine ImZq.i fun h => ?_ | refine IkZq.i fun hk => ?_)
    · obtain rfl : i = l.length := by omega
      repeat' (first
        | refine GZp_i_y_2i ?_ ?_ ?_ ?_ ?_ ?_ ?_ ?_
        | with_reducible first | exact BzZq.mk | refine Tw.ret ?_ | refine ImZq.i fun h => ?_ | refine IkZq.i fun hk => ?_)
      exact ⟨rfl, _, _, rfl⟩
  refine raw.wk fun v X h => ?_
  obtain ⟨rfl, a, b, rfl⟩ := h
  refine ⟨_, [some (.arr Ey (tab (w * k) fun j => setG w P j l.length))], TWk.fcanon env [some 1] (F' := [(0, .tup [.agg [.int .i64 w, .int .i64 k, .sla 1 0 0 (w * k)], .int .i64 0])]) (by rfl) ?_, rfl, rfl⟩
  repeat' (first
    | refine GZ_i_y_2i ?_ ?_ ?_ ?_ ?_ ?_ ?_ ?_
    | with_reducible first | exact BzZq.mk | refine Tw.ret ?_ | refine ImZq.i fun h => ?_ | refine IkZq.i fun hk => ?_)
end Go.Proofs.Ytagfanbodglplaa
