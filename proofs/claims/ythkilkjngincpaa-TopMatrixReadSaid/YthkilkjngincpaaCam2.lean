/- The camera: a photograph. -/
import Derived.Test.YthkilkjngincpaaCamX
import Derived.Test.YthkilkjngincpaaGo
namespace Go.Proofs.Ythkilkjngincpaa
open Go Go.Lite
set_option linter.unusedVariables false
set_option linter.unusedSimpArgs false
set_option maxRecDepth 100000
set_option maxHeartbeats 4000000
-- @simp rdi rdy

def camW (t : Bm3) (s : Nat) : Nat := t.1 * s + 32
def camH (t : Bm3) (s : Nat) : Nat := t.2.1 * s + 32
/-- The tone of a place ahead of blur and noise. -/
def camT (t : Bm3) (s X Y : Nat) (l d : Int) (x y : Nat) : Int :=
  if 0 ≤ (x : Int) - X ∧ 0 ≤ (y : Int) - Y ∧ px t.1 t.2.1 t.2.2 (quo ((x : Int) - X) s) (quo ((y : Int) - Y) s) = true then d else l
def camB (t : Bm3) (s X Y : Nat) (l d : Int) (m : Nat) : Int := camT t s X Y l d (m % camW t s) (m / camW t s)
def blurF (w k : Nat) (P : List Int) (m : Nat) : Int := near (winS w k P (m % w) (m / w)) (winN w k (m % w) (m / w)) % 256
def blurL (w k : Nat) (P : List Int) : Nat → List Int
  | 0 => P
  | n + 1 => tab (w * k) (blurF w k (blurL w k P n))
def nzF (N P : List Int) (m : Nat) : Int := if N.length = 0 then P.getD m 0 else max 0 (min 255 (P.getD m 0 + N.getD (m % N.length) 0)) % 256
/-- The image of a turned bitmap. -/
def capP (t : Bm3) (s X Y b : Nat) (l d : Int) (N : List Int) : List Int :=
  tab (camW t s * camH t s) (nzF N (blurL (camW t s) (camH t s) (tab (camW t s * camH t s) (camB t s X Y l d)) b))

theorem tab_im {w k : Nat} {f : Nat → Int} (hw : 1 ≤ w ∧ w ≤ 1024) (hk : 1 ≤ k ∧ k ≤ 1024) (hf : ∀ m, 0 ≤ f m ∧ f m ≤ 255) : ImOk w k (tab (w * k) f) :=
  ⟨hw, hk, tab_len, fun i hi => by rw [tab_len] at hi; rw [tab_get hi]; exact hf i⟩
theorem camB_bd {t : Bm3} {s X Y : Nat} {l d : Int} (hl : 0 ≤ l ∧ l ≤ 255) (hd : 0 ≤ d ∧ d ≤ 255) (m : Nat) : 0 ≤ camB t s X Y l d m ∧ camB t s X Y l d m ≤ 255 := by
  unfold camB camT; split <;> assumption
theorem blurL_im {w k : Nat} {P : List Int} (h : ImOk w k P) : ∀ n, ImOk w k (blurL w k P n)
  | 0 => h
  | n + 1 => tab_im h.w1 h.k1 fun m => by unfold blurF; omega
theorem nz_im {w k : Nat} {N P : List Int} (h : ImOk w k P) : ImOk w k (tab (w * k) (nzF N P)) :=
  tab_im h.w1 h.k1 fun m => by
    unfold nzF
    split
    · exact byte0 h.byte m
    · omega
theorem capP_im {t : Bm3} {s X Y b : Nat} {l d : Int} {N : List Int} (hw : camW t s ≤ 1024) (hk : camH t s ≤ 1024) (hl : 0 ≤ l ∧ l ≤ 255) (hd : 0 ≤ d ∧ d ≤ 255) : ImOk (camW t s) (camH t s) (capP t s X Y b l d N) :=
  nz_im (blurL_im (tab_im ⟨by unfold camW; omega, hw⟩ ⟨by unfold camH; omega, hk⟩ (camB_bd hl hd)) b)

/-- The first i values anew. -/
def mixL (n : Nat) (P : List Int) (f : Nat → Int) (i : Nat) : List Int := tab n fun m => if m < i then f m else P.getD m 0
theorem mix_len {n : Nat} {P : List Int} {f : Nat → Int} {i : Nat} : (mixL n P f i).length = n := tab_len
theorem mix_zero {n : Nat} {P : List Int} {f : Nat → Int} (h : P.length = n) : mixL n P f 0 = P :=
  (is_tab 0 h fun i _ => by rw [if_neg (by omega)]).symm
theorem mix_all {n : Nat} {P : List Int} {f : Nat → Int} : mixL n P f n = tab n f :=
  is_tab 0 mix_len fun i hi => by rw [mixL, tab_get hi, if_pos hi]
theorem mix_set {n : Nat} {P : List Int} {f : Nat → Int} {i : Nat} (hi : i < n) : (mixL n P f i).set i (f i) = mixL n P f (i + 1) :=
  is_tab 0 (by rw [List.length_set, mix_len]) fun j hj => by
    by_cases e : i = j
    · subst e
      rw [getD_set_eq (by rw [mix_len]; exact hi), if_pos (by omega)]
    · rw [getD_set_ne e, mixL, tab_get hj]
      by_cases h1 : j < i
      · rw [if_pos h1, if_pos (by omega)]
      · rw [if_neg h1, if_neg (by omega)]
theorem mix_skip {n : Nat} {P : List Int} {f : Nat → Int} {i : Nat} (h : f i = P.getD i 0) : mixL n P f (i + 1) = mixL n P f i :=
  is_tab 0 mix_len fun j hj => by
    rw [mixL, tab_get hj]
    by_cases e : j = i
    · subst e; rw [if_pos (by omega), if_neg (by omega), h]
    · by_cases h1 : j < i
      · rw [if_pos h1, if_pos (by omega)]
      · rw [if_neg h1, if_neg (by omega)]
theorem mix_get {n : Nat} {P : List Int} {f : Nat → Int} {i : Nat} (hi : i < n) : (mixL n P f i).getD i 0 = P.getD i 0 := by rw [mixL, tab_get hi, if_neg (by omega)]

theorem winN_bd {w k x y : Nat} (hx : x < w) (hy : y < k) : 1 ≤ winN w k x y ∧ winN w k x y ≤ 9 := by
  unfold winN
  have h1 : 1 ≤ min (k - 1) (y + 1) + 1 - (y - 1) ∧ min (k - 1) (y + 1) + 1 - (y - 1) ≤ 3 := by omega
  have h2 : 1 ≤ min (w - 1) (x + 1) + 1 - (x - 1) ∧ min (w - 1) (x + 1) + 1 - (x - 1) ≤ 3 := by omega
  have h3 := Nat.mul_le_mul h1.1 h2.1
  have h4 := Nat.mul_le_mul h1.2 h2.2
  omega
theorem winS_bd {w k : Nat} {P : List Int} {x y : Nat} (h : ∀ i, i < P.length → 0 ≤ P.getD i 0 ∧ P.getD i 0 ≤ 255) (hx : x < w) (hy : y < k) : 0 ≤ winS w k P x y ∧ winS w k P x y ≤ 2295 := by
  unfold winS
  have := sumN_bd (f := fun j => rowS P ((y - 1 + j) * w + (x - 1)) (min (w - 1) (x + 1) + 1 - (x - 1))) (k := 765) (n := min (k - 1) (y + 1) + 1 - (y - 1)) fun j _ => by
    have := rowS_bd h ((y - 1 + j) * w + (x - 1)) (min (w - 1) (x + 1) + 1 - (x - 1))
    omega
  omega

def camR (w k : Nat) (D : List Int) (s X Y t b : Nat) (l d : Int) (N : List Int) (T : Bm3) (Wd Hd : Nat) (P : List Int) : TH A :=
  [some (.cells [.int .i64 w, .int .i64 k, .lst Ey D]), some (.cells [.int .i64 s, .int .i64 X, .int .i64 Y, .int .i64 t, .int .i64 b, .int .i64 l, .int .i64 d, .lst Ei N]), some (.cells [.int .i64 0, .int .i64 0, .nils]),
    some (.cells [.int .i64 T.1, .int .i64 T.2.1, .lst Ey T.2.2]), some (.cells [.int .i64 Wd, .int .i64 Hd, .sla 1 5 0 (Wd * Hd)]), some (.arr Ey P)]
theorem capture_c (w k : Nat) (D : List Int) (s X Y t b : Nat) (l d : Int) (N : List Int) (ok : BmOk w k D) (vo : ViOk s X Y t b l d N) (hW : camW (trn (w, k, D) t) s ≤ 1024) (hH : camH (trn (w, k, D) t) s ≤ 1024) :
    TC R Try.prog camera_Capture_f [.agg [.int .i64 w, .int .i64 k, .lst Ey D], .agg [.int .i64 s, .int .i64 X, .int .i64 Y, .int .i64 t, .int .i64 b, .int .i64 l, .int .i64 d, .lst Ei N]] []
    (fun v Z => v = .tup [.agg [.int .i64 (camW (trn (w, k, D) t) s), .int .i64 (camH (trn (w, k, D) t) s), .lst Ey (capP (trn (w, k, D) t) s X Y b l d N)], .int .i64 0] ∧ Z = []) := by
  have tc := turned_c w k D t ok (by have := vo.ft; omega)
  have okT : Ok3 (trn (w, k, D) t) := trn_ok (show Ok3 (w, k, D) from ok) t
  have cc := bCheck_y w k D ok
  have vc := view_y s X Y t b l d N vo
  obtain ⟨v1, v2, v3, v4, v5, v6, v7, v8, v9⟩ := vo
  unfold enT at tc
  unfold capP
  generalize hT : trn (w, k, D) t = T at *
  obtain ⟨Wd, hWd⟩ : ∃ Wd, Wd = camW T s := ⟨_, rfl⟩
  obtain ⟨Hd, hHd⟩ : ∃ Hd, Hd = camH T s := ⟨_, rfl⟩
  have hT1 := okT.w1
  have hT2 := okT.h1
  rw [← hWd] at hW ⊢
  rw [← hHd] at hH ⊢
  have hW1 : 1 ≤ Wd ∧ Wd ≤ 1024 := ⟨by rw [hWd]; unfold camW; omega, hW⟩
  have hH1 : 1 ≤ Hd ∧ Hd ≤ 1024 := ⟨by rw [hHd]; unfold camH; omega, hH⟩
  have wh := wk_bd hW1 hH1
  have e1 : (T.1 : Int) * (s : Int) + 32 = (Wd : Nat) := by rw [hWd]; unfold camW; simp
  have e2 : (T.2.1 : Int) * (s : Int) + 32 = (Hd : Nat) := by rw [hHd]; unfold camH; simp
  have e3 : (Wd : Int) * (Hd : Int) = ((Wd * Hd : Nat) : Int) := by simp
  have p1 : 0 ≤ (T.1 : Int) * (s : Int) := Int.mul_nonneg (by omega) (by omega)
  have p2 : 0 ≤ (T.2.1 : Int) * (s : Int) := Int.mul_nonneg (by omega) (by omega)
  refine tc0 env camera_Capture_s (by rfl) ?_
  dsimp only [camera_Capture_c]
  repeat' (first
    | ((with_reducible refine TOps.any ?_); refine TOps.callE env (by rfl) (by rfl) (by rfl) ?_ (cc) (by rfl) ?_)
    | ((with_reducible refine TOps.any ?_); refine TOps.callE env (by rfl) (by rfl) (by rfl) ?_ (vc) (by rfl) ?_)
    | ((with_reducible refine TOps.any ?_); refine TOps.callHE env [0] (tc) (by rfl) (by rfl) (by rfl) (by rfl) (by rfl) (by rfl) (by repeat' (first | exact trivial | refine ⟨rfl, ?_⟩)) ?_)
    | refine GZy_i_y (And.intro e1 (And.intro e2 e3)) ?_ ?_ ?_ ?_ ?_ ?_ ?_ ?_
    | with_reducible first | exact BzZq.mk | refine Tw.ret ?_ | refine ImZq.i fun h => ?_ | refine IkZq.i fun hk => ?_)
  rw [e1, e2, e3, Int.toNat_natCast]
  have u1 : l % 256 = l := by omega
  have u2 : d % 256 = d := by omega
  refine Tw.loopK [3, 4, 8, 9, 65] (fun y : Nat => y ≤ Hd) (fun y => Hd - y) (fun y => [(66, .int .i64 y)])
    (fun y => camR w k D s X Y t b l d N T Wd Hd (ptab (Wd * Hd) (y * Wd) (camB T s X Y l d))) ⟨0, by omega, TWk.fcanon env [some 0, some 1, some 2, some 3, some 4, some 5] (by rfl) ?_⟩ (fun y hy => ?_)
  · have z0 : ptab (Wd * Hd) (0 * Wd) (camB T s X Y l d) = List.replicate (Wd * Hd) 0 := by rw [Nat.zero_mul]; exact ptab_zero
    repeat' (first
      | exact z0
      | refine GZ_i_y ?_ ?_ ?_ ?_ ?_ ?_ ?_ ?_
      | with_reducible first | exact BzZq.mk | refine Tw.ret ?_ | refine ImZq.i fun h => ?_ | refine IkZq.i fun hk => ?_)
  dsimp only [camR]
  rcases Nat.lt_or_ge y Hd with hy2 | hy2
  · repeat' (first
      | refine GZp_i_y ?_ ?_ ?_ ?_ ?_ ?_ ?_ ?_
      | with_reducible first | exact BzZq.mk | refine Tw.ret ?_ | refine ImZq.i fun h => ?_ | refine IkZq.i fun hk => ?_)
    refine Tw.loopK [3, 4, 8, 9, 65, 66, 10, 70] (fun x : Nat => x ≤ Wd) (fun x => Wd - x) (fun x => [(71, .int .i64 x)])
      (fun x => camR w k D s X Y t b l d N T Wd Hd (ptab (Wd * Hd) (y * Wd + x) (camB T s X Y l d))) ⟨0, by omega, TWk.fcanon env [some 0, some 1, some 2, some 3, some 4, some 5] (by rfl) ?_⟩ (fun x hx => ?_)
    · repeat' (first
        | refine GZ_i_y ?_ ?_ ?_ ?_ ?_ ?_ ?_ ?_
        | with_reducible first | exact BzZq.mk | refine Tw.ret ?_ | refine ImZq.i fun h => ?_ | refine IkZq.i fun hk => ?_)
    dsimp only [camR]
    have yw : y * Wd + Wd ≤ Wd * Hd := by
      have h1 : (y + 1) * Wd ≤ Hd * Wd := Nat.mul_le_mul_right _ (by omega)
      rw [Nat.add_mul, Nat.one_mul, Nat.mul_comm Hd Wd] at h1; exact h1
    have hpl : (ptab (Wd * Hd) (y * Wd + x) (camB T s X Y l d)).length = Wd * Hd := ptab_len
    rcases Nat.lt_or_ge x Wd with hx2 | hx2
    · have hm1 : (y * Wd + x) % Wd = x := by rw [Nat.mul_add_mod']; exact Nat.mod_eq_of_lt hx2
      have hm2 : (y * Wd + x) / Wd = y := by rw [Nat.mul_comm, Nat.mul_add_div (by omega), Nat.div_eq_of_lt hx2, Nat.add_zero]
      have e5 : (y : Int) * (Wd : Int) + (x : Int) = ((y * Wd + x : Nat) : Int) := by simp
      have b0 : (y : Int) * (Wd : Int) = ((y * Wd : Nat) : Int) := by simp
      have b1 : -9223372036854775808 ≤ (y : Int) * (Wd : Int) ∧ (y : Int) * (Wd : Int) ≤ 9223372036854775807 := by rw [b0]; omega
      have b2 : -9223372036854775808 ≤ (y : Int) * (Wd : Int) + (x : Int) ∧ (y : Int) * (Wd : Int) + (x : Int) ≤ 9223372036854775807 := by rw [e5]; omega
      have b3 : 0 + ((y : Int) * (Wd : Int) + (x : Int)).toNat * 1 < (ptab (Wd * Hd) (y * Wd + x) (camB T s X Y l d)).length := by rw [hpl, e5]; omega
      by_cases c1 : 0 ≤ (x : Int) - X
      · by_cases c2 : 0 ≤ (y : Int) - Y
        · have q1 : rng .i64 (quo ((x : Int) - X) s) := quo_rng c1 (by omega) (by omega)
          have q2 : rng .i64 (quo ((y : Int) - Y) s) := quo_rng c2 (by omega) (by omega)
          have ic := is_c T.1 T.2.1 T.2.2 (quo ((x : Int) - X) s) (quo ((y : Int) - Y) s) okT
          cases hp : px T.1 T.2.1 T.2.2 (quo ((x : Int) - X) s) (quo ((y : Int) - Y) s)
          · rw [hp] at ic
            have bt : camB T s X Y l d (y * Wd + x) = l := by
              unfold camB camT
              rw [← hWd, hm1, hm2]
              rw [hp]; simp
            have pix : (ptab (Wd * Hd) (y * Wd + x) (camB T s X Y l d)).set ((y : Int) * Wd + x).toNat (l % 256) = ptab (Wd * Hd) (y * Wd + x + 1) (camB T s X Y l d) := by
              have e := ptab_set (n := Wd * Hd) (k := y * Wd + x) (f := camB T s X Y l d)
              rw [bt] at e
              rw [e5, Int.toNat_natCast, u1]; exact e
            repeat' (first
              | ((with_reducible refine TDr.any ?_); refine TDr.callE env (by first | rfl | assumption) (by rfl) (by rfl) ?_ (ic) (by rfl) (by rfl) ?_)
              | exact fun _ => q1
              | exact fun _ => q2
              | exact b1
              | exact b2
              | exact b3
              | refine GZy_i_y e5 ?_ ?_ ?_ ?_ ?_ ?_ ?_ ?_
              | with_reducible first | exact BzZq.mk | refine Tw.ret ?_ | refine ImZq.i fun h => ?_ | refine IkZq.i fun hk => ?_)
            refine ⟨x + 1, by omega, by omega, TWk.fcanon env [some 0, some 1, some 2, some 3, some 4, some 5] (by rfl) ?_⟩
            repeat' (first
              | exact pix.symm
              | refine GZ_i_y ?_ ?_ ?_ ?_ ?_ ?_ ?_ ?_
              | with_reducible first | exact BzZq.mk | refine Tw.ret ?_ | refine ImZq.i fun h => ?_ | refine IkZq.i fun hk => ?_)
          · rw [hp] at ic
            have bt : camB T s X Y l d (y * Wd + x) = d := by
              unfold camB camT
              rw [← hWd, hm1, hm2]
              rw [if_pos ⟨c1, c2, hp⟩]
            have pix : (ptab (Wd * Hd) (y * Wd + x) (camB T s X Y l d)).set ((y : Int) * Wd + x).toNat (d % 256) = ptab (Wd * Hd) (y * Wd + x + 1) (camB T s X Y l d) := by
              have e := ptab_set (n := Wd * Hd) (k := y * Wd + x) (f := camB T s X Y l d)
              rw [bt] at e
              rw [e5, Int.toNat_natCast, u2]; exact e
            repeat' (first
              | ((with_reducible refine TDr.any ?_); refine TDr.callE env (by first | rfl | assumption) (by rfl) (by rfl) ?_ (ic) (by rfl) (by rfl) ?_)
              | exact fun _ => q1
              | exact fun _ => q2
              | exact b1
              | exact b2
              | exact b3
              | refine GZy_i_y e5 ?_ ?_ ?_ ?_ ?_ ?_ ?_ ?_
              | with_reducible first | exact BzZq.mk | refine Tw.ret ?_ | refine ImZq.i fun h => ?_ | refine IkZq.i fun hk => ?_)
            refine ⟨x + 1, by omega, by omega, TWk.fcanon env [some 0, some 1, some 2, some 3, some 4, some 5] (by rfl) ?_⟩
            repeat' (first
              | exact pix.symm
              | refine GZ_i_y ?_ ?_ ?_ ?_ ?_ ?_ ?_ ?_
              | with_reducible first | exact BzZq.mk | refine Tw.ret ?_ | refine ImZq.i fun h => ?_ | refine IkZq.i fun hk => ?_)
        · have bt : camB T s X Y l d (y * Wd + x) = l := by
            unfold camB camT
            rw [← hWd, hm1, hm2]
            rw [if_neg fun hh => c2 hh.2.1]
          have pix : (ptab (Wd * Hd) (y * Wd + x) (camB T s X Y l d)).set ((y : Int) * Wd + x).toNat (l % 256) = ptab (Wd * Hd) (y * Wd + x + 1) (camB T s X Y l d) := by
            have e := ptab_set (n := Wd * Hd) (k := y * Wd + x) (f := camB T s X Y l d)
            rw [bt] at e
            rw [e5, Int.toNat_natCast, u1]; exact e
          repeat' (first
            | exact b1
            | exact b2
            | exact b3
            | refine GZy_i_y e5 ?_ ?_ ?_ ?_ ?_ ?_ ?_ ?_
            | with_reducible first | exact BzZq.mk | refine Tw.ret ?_ | refine ImZq.i fun h => ?_ | refine IkZq.i fun hk => ?_)
          refine ⟨x + 1, by omega, by omega, TWk.fcanon env [some 0, some 1, some 2, some 3, some 4, some 5] (by rfl) ?_⟩
          repeat' (first
            | exact pix.symm
            | refine GZ_i_y ?_ ?_ ?_ ?_ ?_ ?_ ?_ ?_
            | with_reducible first | exact BzZq.mk | refine Tw.ret ?_ | refine ImZq.i fun h => ?_ | refine IkZq.i fun hk => ?_)
      · have bt : camB T s X Y l d (y * Wd + x) = l := by
          unfold camB camT
          rw [← hWd, hm1, hm2]
          rw [if_neg fun hh => c1 hh.1]
        have pix : (ptab (Wd * Hd) (y * Wd + x) (camB T s X Y l d)).set ((y : Int) * Wd + x).toNat (l % 256) = ptab (Wd * Hd) (y * Wd + x + 1) (camB T s X Y l d) := by
          have e := ptab_set (n := Wd * Hd) (k := y * Wd + x) (f := camB T s X Y l d)
          rw [bt] at e
          rw [e5, Int.toNat_natCast, u1]; exact e
        repeat' (first
          | exact b1
          | exact b2
          | exact b3
          | refine GZy_i_y e5 ?_ ?_ ?_ ?_ ?_ ?_ ?_ ?_
          | with_reducible first | exact BzZq.mk | refine Tw.ret ?_ | refine ImZq.i fun h => ?_ | refine IkZq.i fun hk => ?_)
        refine ⟨x + 1, by omega, by omega, TWk.fcanon env [some 0, some 1, some 2, some 3, some 4, some 5] (by rfl) ?_⟩
        repeat' (first
          | exact pix.symm
          | refine GZ_i_y ?_ ?_ ?_ ?_ ?_ ?_ ?_ ?_
          | with_reducible first | exact BzZq.mk | refine Tw.ret ?_ | refine ImZq.i fun h => ?_ | refine IkZq.i fun hk => ?_)
    · obtain rfl : x = Wd := by omega
      repeat' (first
        | refine GZp_i_y ?_ ?_ ?_ ?_ ?_ ?_ ?_ ?_
        | with_reducible first | exact BzZq.mk | refine Tw.ret ?_ | refine ImZq.i fun h => ?_ | refine IkZq.i fun hk => ?_)
      refine ⟨y + 1, by omega, by omega, TWk.fcanon env [some 0, some 1, some 2, some 3, some 4, some 5] (by rfl) ?_⟩
      have z1 : ptab (x * Hd) ((y + 1) * x) (camB T s X Y l d) = ptab (x * Hd) (y * x + x) (camB T s X Y l d) := by rw [Nat.add_mul, Nat.one_mul]
      repeat' (first
        | exact z1
        | refine GZ_i_y ?_ ?_ ?_ ?_ ?_ ?_ ?_ ?_
        | with_reducible first | exact BzZq.mk | refine Tw.ret ?_ | refine ImZq.i fun h => ?_ | refine IkZq.i fun hk => ?_)
  have ey : y = Hd := by omega
  rw [ey]
  obtain ⟨P0, hP0⟩ : ∃ P0, P0 = tab (Wd * Hd) (camB T s X Y l d) := ⟨_, rfl⟩
  have im0 : ImOk Wd Hd P0 := by rw [hP0]; exact tab_im hW1 hH1 (camB_bd v6 v7)
  rw [Nat.mul_comm Hd Wd, ptab_all, ← hP0]
  obtain ⟨n, hn⟩ : ∃ n, n = Wd * Hd := ⟨_, rfl⟩
  rw [← hn] at e3 wh ⊢
  repeat' (first
    | refine GZp_i_y ?_ ?_ ?_ ?_ ?_ ?_ ?_ ?_
    | with_reducible first | exact BzZq.mk | refine Tw.ret ?_ | refine ImZq.i fun h => ?_ | refine IkZq.i fun hk => ?_)
  refine Tw.loopK [3, 4, 9, 117] (fun i : Nat => i ≤ b) (fun i => b - i) (fun i => [(118, .int .i64 i)])
    (fun i => camR w k D s X Y t b l d N T Wd Hd (blurL Wd Hd P0 i)) ⟨0, by omega, TWk.fcanon env [some 0, some 1, some 2, some 3, some 4, some 5] (by rfl) ?_⟩ (fun i hi => ?_)
  · repeat' (first
      | exact congrArg _ hn
      | refine GZ_i_y ?_ ?_ ?_ ?_ ?_ ?_ ?_ ?_
      | with_reducible first | exact BzZq.mk | refine Tw.ret ?_ | refine ImZq.i fun h => ?_ | refine IkZq.i fun hk => ?_)
  dsimp only [camR]
  have im := blurL_im im0 i
  rcases Nat.lt_or_ge i b with hi2 | hi2
  · have eb : blurL Wd Hd P0 (i + 1) = tab n (blurF Wd Hd (blurL Wd Hd P0 i)) := by rw [hn]; rfl
    generalize blurL Wd Hd P0 i = P at *
    rw [← hn]
    have lP : P.length = n := by rw [hn]; exact im.len
    have la : 0 + n ≤ P.length := by omega
    have cP : cut P 0 n = P := cut_all lP.symm
    have cl : (cut P 0 n).length = n := by rw [cP, lP]
    have ld : (cut P 0 n).length * 1 ≤ 140737488355328 ∧ (cut P 0 n).length ≤ 140737488355328 := by rw [cl]; omega
    repeat' (first
      | exact la
      | exact ld
      | refine GZp_i_y ?_ ?_ ?_ ?_ ?_ ?_ ?_ ?_
      | with_reducible first | exact BzZq.mk | refine Tw.ret ?_ | refine ImZq.i fun h => ?_ | refine IkZq.i fun hk => ?_)
    refine Tw.loopK [3, 4, 9, 117, 118, 127] (fun m : Nat => m ≤ n) (fun m => n - m) (fun m => [(128, .int .i64 m), (15, .ptr 6 0)])
      (fun m => camR w k D s X Y t b l d N T Wd Hd (mixL n P (blurF Wd Hd P) m) ++ [some (.cells [.int .i64 Wd, .int .i64 Hd, .sla 1 7 0 n]), some (.arr Ey P)]) ⟨0, by omega, TWk.fcanon env [some 0, some 1, some 2, some 3, some 4, some 5, some 6, some 7] (by rfl) ?_⟩ (fun m hm => ?_)
    · have mz : mixL n P (blurF Wd Hd P) 0 = P := mix_zero lP
      repeat' (first
        | exact hn.symm
        | exact mz
        | exact cl.symm
        | exact cP.symm
        | refine GZ_i_y ?_ ?_ ?_ ?_ ?_ ?_ ?_ ?_
        | with_reducible first | exact BzZq.mk | refine Tw.ret ?_ | refine ImZq.i fun h => ?_ | refine IkZq.i fun hk => ?_)
    dsimp only [camR, List.cons_append, List.nil_append]
    rw [← hn]
    have lm : (mixL n P (blurF Wd Hd P) m).length = n := mix_len
    rcases Nat.lt_or_ge m n with hm2 | hm2
    · have hx : m % Wd < Wd := Nat.mod_lt _ (by omega)
      have hy : m / Wd < Hd := Nat.div_lt_of_lt_mul (by omega)
      have r1 : rem (m : Int) Wd = ((m % Wd : Nat) : Int) := by rw [rem_nn (by omega)]; omega
      have r2 : quo (m : Int) Wd = ((m / Wd : Nat) : Int) := by rw [quo_nn (by omega)]; omega
      have wc : TC R Try.prog camera_window_f [.pel [.int .i64 Wd, .int .i64 Hd, .lst Ey (cut P 0 n)], .int .i64 (m % Wd : Nat), .int .i64 (m / Wd : Nat), .int .i64 1] [] (fun v X => v = .tup [.int .i64 (winS Wd Hd P (m % Wd) (m / Wd)), .int .i64 (winN Wd Hd (m % Wd) (m / Wd))] ∧ X = []) := by
        rw [cP]; exact window_c Wd Hd P (m % Wd) (m / Wd) im hx hy
      have rq : rng .i64 (quo (m : Int) Wd) := quo_rng (by omega) (by omega) (by omega)
      have ws := winS_bd im.byte hx hy
      have wn := winN_bd hx hy
      have nc := nearest_c (winS Wd Hd P (m % Wd) (m / Wd)) (winN Wd Hd (m % Wd) (m / Wd)) (by unfold Due; omega)
      have ms : (mixL n P (blurF Wd Hd P) m).set m (near (winS Wd Hd P (m % Wd) (m / Wd)) (winN Wd Hd (m % Wd) (m / Wd)) % 256) = mixL n P (blurF Wd Hd P) (m + 1) := mix_set (f := blurF Wd Hd P) hm2
      repeat' (first
        | ((with_reducible refine TDr.any ?_); refine TDr.callE env (by first | rfl | assumption) (by rfl) (by rfl) ?_ (wc) (by rfl) (by rfl) ?_)
        | ((with_reducible refine TDr.any ?_); refine TDr.callE env (by first | rfl | assumption) (by rfl) (by rfl) ?_ (nc) (by rfl) (by rfl) ?_)
        | exact rq
        | refine GZy_i_y (And.intro r1 (And.intro r2 lm)) ?_ ?_ ?_ ?_ ?_ ?_ ?_ ?_
        | with_reducible first | exact BzZq.mk | refine Tw.ret ?_ | refine ImZq.i fun h => ?_ | refine IkZq.i fun hk => ?_)
      refine ⟨m + 1, by omega, by omega, TWk.fcanon env [some 0, some 1, some 2, some 3, some 4, some 5, some 6, some 7] (by rfl) ?_⟩
      repeat' (first
        | exact hn.symm
        | exact ms.symm
        | refine GZ_i_y ?_ ?_ ?_ ?_ ?_ ?_ ?_ ?_
        | with_reducible first | exact BzZq.mk | refine Tw.ret ?_ | refine ImZq.i fun h => ?_ | refine IkZq.i fun hk => ?_)
    obtain rfl : m = n := by omega
    repeat' (first
      | refine GZy_i_y lm ?_ ?_ ?_ ?_ ?_ ?_ ?_ ?_
      | with_reducible first | exact BzZq.mk | refine Tw.ret ?_ | refine ImZq.i fun h => ?_ | refine IkZq.i fun hk => ?_)
    refine ⟨i + 1, by omega, by omega, TWk.fcanon env [some 0, some 1, some 2, some 3, some 4, some 5] (by rfl) ?_⟩
    have ez : blurL Wd Hd P0 (i + 1) = mixL m P (blurF Wd Hd P) m := by rw [eb, mix_all]
    repeat' (first
      | exact hn.symm
      | exact ez
      | refine GZ_i_y ?_ ?_ ?_ ?_ ?_ ?_ ?_ ?_
      | with_reducible first | exact BzZq.mk | refine Tw.ret ?_ | refine ImZq.i fun h => ?_ | refine IkZq.i fun hk => ?_)
  obtain rfl : i = b := by omega
  generalize blurL Wd Hd P0 i = P at *
  have lP : P.length = n := by rw [hn]; exact im.len
  rw [← hn]
  repeat' (first
    | refine GZp_i_y ?_ ?_ ?_ ?_ ?_ ?_ ?_ ?_
    | with_reducible first | exact BzZq.mk | refine Tw.ret ?_ | refine ImZq.i fun h => ?_ | refine IkZq.i fun hk => ?_)
  refine Tw.loopK [3, 4, 9, 155] (fun m : Nat => m ≤ n) (fun m => n - m) (fun m => [(156, .int .i64 m)])
    (fun m => camR w k D s X Y t i l d N T Wd Hd (mixL n P (nzF N P) m)) ⟨0, by omega, TWk.fcanon env [some 0, some 1, some 2, some 3, some 4, some 5] (by rfl) ?_⟩ (fun m hm => ?_)
  · have mz : mixL n P (nzF N P) 0 = P := mix_zero lP
    repeat' (first
      | exact hn.symm
      | exact mz
      | refine GZ_i_y ?_ ?_ ?_ ?_ ?_ ?_ ?_ ?_
      | with_reducible first | exact BzZq.mk | refine Tw.ret ?_ | refine ImZq.i fun h => ?_ | refine IkZq.i fun hk => ?_)
  dsimp only [camR]
  rw [← hn]
  have lm : (mixL n P (nzF N P) m).length = n := mix_len
  rcases Nat.lt_or_ge m n with hm2 | hm2
  · by_cases hN : N.length = 0
    · have gz : nzF N P m = P.getD m 0 := if_pos hN
      have ms : mixL n P (nzF N P) (m + 1) = mixL n P (nzF N P) m := mix_skip gz
      repeat' (first
        | refine GZy_i_y lm ?_ ?_ ?_ ?_ ?_ ?_ ?_ ?_
        | with_reducible first | exact BzZq.mk | refine Tw.ret ?_ | refine ImZq.i fun h => ?_ | refine IkZq.i fun hk => ?_)
      refine ⟨m + 1, by omega, by omega, TWk.fcanon env [some 0, some 1, some 2, some 3, some 4, some 5] (by rfl) ?_⟩
      repeat' (first
        | exact hn.symm
        | exact ms
        | refine GZ_i_y ?_ ?_ ?_ ?_ ?_ ?_ ?_ ?_
        | with_reducible first | exact BzZq.mk | refine Tw.ret ?_ | refine ImZq.i fun h => ?_ | refine IkZq.i fun hk => ?_)
    · have gz : nzF N P m = max 0 (min 255 (P.getD m 0 + N.getD (m % N.length) 0)) % 256 := if_neg hN
      have r1 : rem (m : Int) N.length = ((m % N.length : Nat) : Int) := by rw [rem_nn (by omega)]; omega
      have hml : m % N.length < N.length := Nat.mod_lt _ (by omega)
      have nb := v9.2 (m % N.length) hml
      have pb := byte0 im.byte m
      have gm : (mixL n P (nzF N P) m).getD m 0 = P.getD m 0 := mix_get hm2
      have ms : (mixL n P (nzF N P) m).set m (max 0 (min 255 (P.getD m 0 + N.getD (m % N.length) 0)) % 256) = mixL n P (nzF N P) (m + 1) := by rw [← gz]; exact mix_set (f := nzF N P) hm2
      have ms2 : mixL n P (nzF N P) (m + 1) = (mixL n P (nzF N P) m).set m (max 0 (min 255 ((mixL n P (nzF N P) m).getD m 0 + N.getD (rem (m : Int) N.length).toNat 0)) % 256) := by
        rw [gm, r1, Int.toNat_natCast]; exact ms.symm
      repeat' (first
        | refine GZy_i_y (And.intro r1 (And.intro lm gm)) ?_ ?_ ?_ ?_ ?_ ?_ ?_ ?_
        | with_reducible first | exact BzZq.mk | refine Tw.ret ?_ | refine ImZq.i fun h => ?_ | refine IkZq.i fun hk => ?_)
      refine ⟨m + 1, by omega, by omega, TWk.fcanon env [some 0, some 1, some 2, some 3, some 4, some 5] (by rfl) ?_⟩
      repeat' (first
        | exact hn.symm
        | exact ms2
        | refine GZ_i_y ?_ ?_ ?_ ?_ ?_ ?_ ?_ ?_
        | with_reducible first | exact BzZq.mk | refine Tw.ret ?_ | refine ImZq.i fun h => ?_ | refine IkZq.i fun hk => ?_)
  obtain rfl : m = n := by omega
  repeat' (first
    | ((with_reducible refine Tw.retI ?_); refine Tw.frz env 5 (by rfl) (by rfl) (by rfl) ?_ ?_ (Tw.ret ?_))
    | refine GZy_i_y lm ?_ ?_ ?_ ?_ ?_ ?_ ?_ ?_
    | with_reducible first | exact BzZq.mk | refine Tw.ret ?_ | refine ImZq.i fun h => ?_ | refine IkZq.i fun hk => ?_)
  rw [cut_all lm.symm, mix_all]
  exact ⟨rfl, rfl, rfl⟩

end Go.Proofs.Ythkilkjngincpaa
