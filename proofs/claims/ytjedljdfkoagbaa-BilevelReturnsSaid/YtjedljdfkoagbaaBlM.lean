/- Compressed bitmaps: which bits are encoded, in which contexts (plain). -/
import Derived.Test.YtjedljdfkoagbaaBm
namespace Go.Proofs.Ytjedljdfkoagbaa
open Go Go.Lite
set_option linter.unusedVariables false
set_option linter.unusedSimpArgs false
set_option maxRecDepth 100000
set_option maxHeartbeats 4000000

def sh1 (c : Int) (b : Bool) : Int := 2 * c + (b.toNat : Int)
/-- A number with n pixels of a row behind it. -/
def tk (p : Int → Int → Bool) (x row from0 c : Int) : Nat → Int
  | 0 => c
  | n + 1 => sh1 (tk p x row from0 c n) (p (x + (from0 + (n : Int))) row)
def winV (p : Int → Int → Bool) (x y : Int) : Int := tk p x y (-3) (tk p x (y - 1) (-2) (tk p x (y - 2) (-1) 0 3) 5) 3
theorem tk_bd {p : Int → Int → Bool} {x row from0 c : Int} {m : Nat} (h : 0 ≤ c ∧ c < 2 ^ m) : ∀ n, 0 ≤ tk p x row from0 c n ∧ tk p x row from0 c n < 2 ^ (m + n)
  | 0 => h
  | n + 1 => by
    have ih := tk_bd (p := p) (x := x) (row := row) (from0 := from0) h n
    have hb : (p (x + (from0 + (n : Int))) row).toNat ≤ 1 := Bool.toNat_le _
    simp only [tk, sh1]
    rw [show m + (n + 1) = m + n + 1 by omega, Int.pow_succ]
    omega
theorem winV_bd {p : Int → Int → Bool} {x y : Int} : 0 ≤ winV p x y ∧ winV p x y < 2048 := by
  have h0 := tk_bd (p := p) (x := x) (row := y - 2) (from0 := -1) (c := 0) (m := 0) (by decide) 3
  have h1 := tk_bd (p := p) (x := x) (row := y - 1) (from0 := -2) h0 5
  have h2 := tk_bd (p := p) (x := x) (row := y) (from0 := -3) h1 3
  exact h2
theorem tk_congr {p q : Int → Int → Bool} {x row from0 c c' : Int} (hc : c = c') : ∀ {n : Nat}, (∀ i : Nat, i < n → p (x + (from0 + (i : Int))) row = q (x + (from0 + (i : Int))) row) → tk p x row from0 c n = tk q x row from0 c' n
  | 0, _ => hc
  | n + 1, h => by
    simp only [tk]
    rw [tk_congr hc fun i hi => h i (by omega), h n (by omega)]
/-- Only what lies before a pixel counts. -/
theorem winV_congr {p q : Int → Int → Bool} {x y : Int} (h : ∀ i j : Int, (j < y ∨ (j = y ∧ i < x)) → p i j = q i j) : winV p x y = winV q x y :=
  tk_congr (tk_congr (tk_congr rfl fun i hi => h _ _ (by omega)) fun i hi => h _ _ (by omega)) fun i hi => h _ _ (by omega)

/-- The pixels of a bitmap of w × h, wherever. -/
def pxF (w h : Nat) (f : Nat → Nat → Bool) (x y : Int) : Bool := px w h (bm w h f) x y
theorem pxF_in {w h : Nat} {f : Nat → Nat → Bool} {x y : Nat} (hx : x < w) (hy : y < h) : pxF w h f x y = f x y := px_bm hx hy
theorem pxF_congr {w h : Nat} {f g : Nat → Nat → Bool} {i j : Int} (e : ∀ x y : Nat, x < w → y < h → (x : Int) = i → (y : Int) = j → f x y = g x y) : pxF w h f i j = pxF w h g i j := by
  by_cases hin : 0 ≤ i ∧ i < w ∧ 0 ≤ j ∧ j < h
  · obtain ⟨x, rfl⟩ : ∃ x : Nat, i = x := ⟨i.toNat, by omega⟩
    obtain ⟨y, rfl⟩ : ∃ y : Nat, j = y := ⟨j.toNat, by omega⟩
    rw [pxF_in (by omega) (by omega), pxF_in (by omega) (by omega)]
    exact e x y (by omega) (by omega) rfl rfl
  · unfold pxF
    rw [px_out hin, px_out hin]
def win (w h : Nat) (f : Nat → Nat → Bool) (x y : Nat) : Nat := (winV (pxF w h f) x y).toNat
theorem win_lt {w h : Nat} {f : Nat → Nat → Bool} {x y : Nat} : win w h f x y < 2048 := by
  have := winV_bd (p := pxF w h f) (x := x) (y := y)
  unfold win; omega
theorem win_int {w h : Nat} {f : Nat → Nat → Bool} {x y : Nat} : winV (pxF w h f) x y = (win w h f x y : Int) := by
  have := winV_bd (p := pxF w h f) (x := x) (y := y)
  unfold win; omega
theorem win_congr {w h : Nat} {f g : Nat → Nat → Bool} {x y : Nat} (e : ∀ i j : Nat, i < w → j < h → (j < y ∨ (j = y ∧ i < x)) → f i j = g i j) : win w h f x y = win w h g x y := by
  unfold win
  rw [winV_congr fun i j hij => pxF_congr fun a b ha hb ea eb => e a b ha hb (by omega)]

/-- The row above. -/
def abv (f : Nat → Nat → Bool) (y x : Nat) : Bool := if y = 0 then false else f x (y - 1)
/-- The bytes of a row. -/
def rowB (w : Nat) (g : Nat → Bool) : List Int := bm w 1 fun x _ => g x
theorem rowB_len {w : Nat} {g : Nat → Bool} : (rowB w g).length = st w := by unfold rowB; rw [bm_len, Nat.mul_one]
theorem rowB_congr {w : Nat} {g g' : Nat → Bool} (h : ∀ x, x < w → g x = g' x) : rowB w g = rowB w g' := bm_congr fun x _ hx _ => h x hx
theorem rowB_inj {w : Nat} {g g' : Nat → Bool} (h : rowB w g = rowB w g') {x : Nat} (hx : x < w) : g x = g' x := by
  have h1 := px_bm (f := fun x _ => g x) hx (show 0 < 1 by omega)
  have h2 := px_bm (f := fun x _ => g' x) hx (show 0 < 1 by omega)
  rw [← h1, ← h2]
  exact congrArg (fun d => px w 1 d x ((0 : Nat) : Int)) h
theorem rowB_bd {w : Nat} {g : Nat → Bool} {i : Nat} (hi : i < (rowB w g).length) : 0 ≤ (rowB w g).getD i 0 ∧ (rowB w g).getD i 0 ≤ 255 := by
  rw [rowB_len] at hi
  exact bm_bd (by omega)
theorem rowB_zero {w : Nat} : rowB w (fun _ => false) = List.replicate (st w) 0 := by
  have := bm_blank (w := w) (h := 1)
  rw [Nat.mul_one] at this
  exact this
theorem cut_row {w h : Nat} {f : Nat → Nat → Bool} {y : Nat} (hy : y < h) (hw : 0 < w) : cut (bm w h f) (y * st w) (st w) = rowB w fun x => f x y := by
  have h0 : 0 < st w := st_pos hw
  have hle : (y + 1) * st w ≤ h * st w := Nat.mul_le_mul_right _ hy
  rw [Nat.add_mul, Nat.one_mul] at hle
  refine ext_getD 0 (by rw [cut_length (by rw [bm_len, Nat.mul_comm (st w) h]; omega), rowB_len]) fun i hi => ?_
  rw [cut_length (by rw [bm_len, Nat.mul_comm (st w) h]; omega)] at hi
  have e1 : (cut (bm w h f) (y * st w) (st w)).getD i 0 = (bm w h f).getD (y * st w + i) 0 := by
    rw [cut_eq, List.getD_eq_getElem?_getD, List.getElem?_take, if_pos hi, List.getElem?_drop, ← List.getD_eq_getElem?_getD]
  rw [e1, bm_get (by rw [Nat.mul_comm (st w) h]; omega)]
  unfold rowB
  rw [bm_get (by rw [Nat.mul_one]; exact hi)]
  unfold bmB
  have m1 : (y * st w + i) % st w = i := by rw [Nat.mul_comm, Nat.mul_add_mod, Nat.mod_eq_of_lt hi]
  have m2 : (y * st w + i) / st w = y := by rw [Nat.mul_comm, Nat.mul_add_div h0, Nat.div_eq_of_lt hi, Nat.add_zero]
  rw [m1, m2, Nat.mod_eq_of_lt hi]
def sameR (w : Nat) (f : Nat → Nat → Bool) (y : Nat) : Bool := decide (rowB w (fun x => f x y) = rowB w (abv f y))
theorem sameR_px {w : Nat} {f : Nat → Nat → Bool} {y x : Nat} (h : sameR w f y = true) (hx : x < w) : f x y = abv f y x := rowB_inj (of_decide_eq_true h) hx

/-- The bits of a row, and of the first rows. -/
def rowE (w h : Nat) (f : Nat → Nat → Bool) (sm : Nat → Bool) (y : Nat) : List (Nat × Nat) :=
  (2048, (sm y).toNat) :: (if sm y = true then [] else tab w fun x => (win w h f x y, (f x y).toNat))
def evs (w h : Nat) (f : Nat → Nat → Bool) (sm : Nat → Bool) : Nat → List (Nat × Nat)
  | 0 => []
  | y + 1 => evs w h f sm y ++ rowE w h f sm y
def ctx (L : List (Nat × Nat)) (k : Nat) : Nat := (L.getD k (0, 0)).1
def bitA (L : List (Nat × Nat)) (k : Nat) : Nat := (L.getD k (0, 0)).2
theorem rowE_len {w h : Nat} {f : Nat → Nat → Bool} {sm : Nat → Bool} {y : Nat} : (rowE w h f sm y).length = 1 + (if sm y = true then 0 else w) := by
  unfold rowE
  split
  · rfl
  · rw [List.length_cons, tab_len]; omega
theorem evs_le {w h : Nat} {f : Nat → Nat → Bool} {sm : Nat → Bool} : ∀ {y : Nat}, (evs w h f sm y).length ≤ y * (w + 1)
  | 0 => by simp [evs]
  | y + 1 => by
    have ih := evs_le (w := w) (h := h) (f := f) (sm := sm) (y := y)
    simp only [evs]
    rw [List.length_append, rowE_len, Nat.add_mul, Nat.one_mul]
    split <;> omega
theorem evs_mono {w h : Nat} {f : Nat → Nat → Bool} {sm : Nat → Bool} {y z : Nat} (hyz : y ≤ z) : ∃ M, evs w h f sm z = evs w h f sm y ++ M := by
  induction z with
  | zero => exact ⟨[], by obtain rfl : y = 0 := by omega
                          rfl⟩
  | succ z ih =>
    rcases Nat.lt_or_ge y (z + 1) with h1 | h1
    · obtain ⟨M, hM⟩ := ih (by omega)
      exact ⟨M ++ rowE w h f sm z, by simp only [evs]; rw [hM, List.append_assoc]⟩
    · obtain rfl : y = z + 1 := by omega
      exact ⟨[], by simp⟩
theorem evs_get {w h : Nat} {f : Nat → Nat → Bool} {sm : Nat → Bool} {y z i : Nat} (hyz : y < z) (hi : i < (rowE w h f sm y).length) : (evs w h f sm z).getD ((evs w h f sm y).length + i) (0, 0) = (rowE w h f sm y).getD i (0, 0) := by
  obtain ⟨M, hM⟩ := evs_mono (w := w) (h := h) (f := f) (sm := sm) (show y + 1 ≤ z from hyz)
  rw [hM, evs, List.append_assoc, getD_app2 (by omega), Nat.add_sub_cancel_left, getD_app1 hi]
theorem evs_same {w h : Nat} {f : Nat → Nat → Bool} {sm : Nat → Bool} {y z : Nat} (hyz : y < z) : (evs w h f sm z).getD (evs w h f sm y).length (0, 0) = (2048, (sm y).toNat) :=
  (evs_get (i := 0) hyz (by rw [rowE_len]; omega)).trans rfl
theorem evs_bit {w h : Nat} {f : Nat → Nat → Bool} {sm : Nat → Bool} {y z x : Nat} (hyz : y < z) (hs : sm y = false) (hx : x < w) : (evs w h f sm z).getD ((evs w h f sm y).length + 1 + x) (0, 0) = (win w h f x y, (f x y).toNat) := by
  have e := evs_get (w := w) (h := h) (f := f) (sm := sm) (y := y) (z := z) (i := 1 + x) hyz (by rw [rowE_len, hs]; simp; omega)
  rw [Nat.add_assoc, e]
  unfold rowE
  rw [hs, Nat.add_comm 1 x, List.getD_cons_succ, if_neg (by simp), tab_get hx]
theorem evs_all {w h : Nat} {f : Nat → Nat → Bool} {sm : Nat → Bool} : ∀ {z k : Nat}, k < (evs w h f sm z).length → ctx (evs w h f sm z) k < 2049 ∧ bitA (evs w h f sm z) k ≤ 1
  | 0, k, hk => by simp [evs] at hk
  | z + 1, k, hk => by
    simp only [evs] at hk ⊢
    rw [List.length_append] at hk
    unfold ctx bitA
    rcases Nat.lt_or_ge k (evs w h f sm z).length with h1 | h1
    · rw [getD_app1 h1]; exact evs_all h1
    · rw [getD_app2 h1]
      obtain ⟨i, hik⟩ : ∃ i, i = k - (evs w h f sm z).length := ⟨_, rfl⟩
      rw [← hik]
      have hi : i < (rowE w h f sm z).length := by
        rcases Nat.lt_or_ge i (rowE w h f sm z).length with h2 | h2
        · exact h2
        · exfalso; omega
      rw [rowE_len] at hi
      unfold rowE
      rcases i with _ | x
      · simp only [List.getD_cons_zero]
        exact ⟨by omega, Bool.toNat_le _⟩
      · rw [List.getD_cons_succ]
        split
        · rename_i hs
          rw [if_pos hs] at hi; omega
        · rename_i hs
          rw [if_neg hs] at hi
          rw [tab_get (by omega)]
          exact ⟨by have := win_lt (w := w) (h := h) (f := f) (x := x) (y := z); simp only; omega, Bool.toNat_le _⟩
end Go.Proofs.Ytjedljdfkoagbaa
