/- Screens: how far a place is from the lines of centres; the order of two places. -/
import Derived.Test.YtagfanbodglplaaScreen2
import Derived.Test.YtagfanbodglplaaSrt
import Derived.Test.YtagfanbodglplaaSheet3
import Derived.Test.YtagfanbodglplaaXTopCalibrated0
import Derived.Test.YtagfanbodglplaaGo
namespace Go.Proofs.Ytagfanbodglplaa
open Go Go.Lite
set_option linter.unusedVariables false
set_option linter.unusedSimpArgs false
set_option maxRecDepth 100000
set_option maxHeartbeats 4000000
-- @simp rdi

def oU (a b P p : Int) : Int := min ((p % P * a + p / P * b) % (a * a + b * b)) (a * a + b * b - (p % P * a + p / P * b) % (a * a + b * b))
def oV (a b P p : Int) : Int := min ((p / P * a - p % P * b) % (a * a + b * b)) (a * a + b * b - (p / P * a - p % P * b) % (a * a + b * b))

theorem pl_bd {a b P p : Int} (ha : 0 ≤ a ∧ a ≤ 20) (hb : 0 ≤ b ∧ b ≤ 20) (hP : 1 ≤ P ∧ P ≤ 400) (hp : 0 ≤ p ∧ p < 400) :
    (0 ≤ p % P ∧ p % P < 400) ∧ (0 ≤ p / P ∧ p / P < 400) ∧ (0 ≤ p % P * a ∧ p % P * a ≤ 8000) ∧ (0 ≤ p / P * b ∧ p / P * b ≤ 8000) ∧ (0 ≤ p / P * a ∧ p / P * a ≤ 8000) ∧ (0 ≤ p % P * b ∧ p % P * b ≤ 8000) := by
  have h1 := Int.emod_nonneg p (show P ≠ 0 by omega)
  have h2 := Int.emod_lt_of_pos p (show 0 < P by omega)
  have h3 : 0 ≤ p / P := Int.ediv_nonneg hp.1 (by omega)
  have h4 : p / P ≤ p := Int.ediv_le_self _ hp.1
  have mb : ∀ x y : Int, 0 ≤ x → x < 400 → 0 ≤ y → y ≤ 20 → 0 ≤ x * y ∧ x * y ≤ 8000 := fun x y a1 a2 a3 a4 => by
    have := Int.mul_le_mul (show x ≤ 400 by omega) a4 a3 (by omega)
    have := Int.mul_nonneg a1 a3
    omega
  exact ⟨by omega, by omega, mb _ _ h1 (by omega) ha.1 ha.2, mb _ _ h3 (by omega) hb.1 hb.2, mb _ _ h3 (by omega) ha.1 ha.2, mb _ _ h1 (by omega) hb.1 hb.2⟩

theorem oUV_bd {a b P p : Int} (hn : 1 ≤ a * a + b * b ∧ a * a + b * b ≤ 400) : (0 ≤ oU a b P p ∧ oU a b P p ≤ 400) ∧ (0 ≤ oV a b P p ∧ oV a b P p ≤ 400) := by
  unfold oU oV
  have h1 := Int.emod_nonneg (p % P * a + p / P * b) (show a * a + b * b ≠ 0 by omega)
  have h2 := Int.emod_lt_of_pos (p % P * a + p / P * b) (show 0 < a * a + b * b by omega)
  have h3 := Int.emod_nonneg (p / P * a - p % P * b) (show a * a + b * b ≠ 0 by omega)
  have h4 := Int.emod_lt_of_pos (p / P * a - p % P * b) (show 0 < a * a + b * b by omega)
  omega

theorem offset_c {a b k P f g : Int} (h : schk a b k = 0) (F : Frm a b P f g) (p : Int) (hp : Due (0 ≤ p ∧ p < 400)) :
    TC R Try.prog screen_offset_f [.agg [.int .i64 a, .int .i64 b, .int .i64 k], .agg [.int .i64 P, .int .i64 f, .int .i64 g], .int .i64 p] [] (fun v X => v = .tup [.int .i64 (oU a b P p), .int .i64 (oV a b P p)] ∧ X = []) := by
  dsimp only [Due] at hp
  obtain ⟨a1, a2, b1, b2, _, _, _, n1, n2⟩ := schk_ok h
  have q1 := sq_bd ⟨a1, a2⟩
  have q2 := sq_bd ⟨b1, b2⟩
  have hP := F.pb
  obtain ⟨p1, p2, p3, p4, p5, p6⟩ := pl_bd (p := p) ⟨a1, a2⟩ ⟨b1, b2⟩ hP hp
  have r1 : rem p P = p % P := rem_nn hp.1
  have r2 : quo p P = p / P := quo_nn hp.1
  have m1 := smod_c (p % P * a + p / P * b) (a * a + b * b) (by unfold Due; omega)
  have m2 := smod_c (p / P * a - p % P * b) (a * a + b * b) (by unfold Due; omega)
  have s1 := Int.emod_nonneg (p % P * a + p / P * b) (show a * a + b * b ≠ 0 by omega)
  have s2 := Int.emod_lt_of_pos (p % P * a + p / P * b) (show 0 < a * a + b * b by omega)
  have s3 := Int.emod_nonneg (p / P * a - p % P * b) (show a * a + b * b ≠ 0 by omega)
  have s4 := Int.emod_lt_of_pos (p / P * a - p % P * b) (show 0 < a * a + b * b by omega)
  refine tc0 env screen_offset_s (by rfl) ?_
  dsimp only [screen_offset_c]
  unfold oU oV
  simp only [← r1, ← r2] at m1 m2 p3 p4 p5 p6 s1 s2 s3 s4 ⊢
  repeat' (first
    | ((with_reducible refine TDr.any ?_); refine TDr.callE env (by first | rfl | assumption) (by rfl) (by rfl) ?_ (m1) (by rfl) (by rfl) ?_)
    | ((with_reducible refine TDr.any ?_); refine TDr.callE env (by first | rfl | assumption) (by rfl) (by rfl) ?_ (m2) (by rfl) (by rfl) ?_)
    | refine GZp_i ?_ ?_ ?_ ?_ ?_ ?_ ?_ ?_
    | with_reducible first | exact BzZq.mk | refine Tw.ret ?_ | refine ImZq.i fun h => ?_ | refine IkZq.i fun hk => ?_)
  exact ⟨rfl, rfl, trivial⟩

/-- The two numbers by which a place is ordered. -/
def k1 (a b k P p : Int) : Int := if k = 1 then oV a b P p else if k = 2 then oU a b P p * oU a b P p + 2 * oV a b P p * oV a b P p else oU a b P p * oU a b P p + oV a b P p * oV a b P p
def k2 (a b k P p : Int) : Int := if k = 1 then oU a b P p else 0

theorem sq4 {x y : Int} (hx : 0 ≤ x ∧ x ≤ 400) (hy : 0 ≤ y ∧ y ≤ 400) : 0 ≤ x * y ∧ x * y ≤ 160000 := by
  have := Int.mul_le_mul hx.2 hy.2 hy.1 (by omega)
  have := Int.mul_nonneg hx.1 hy.1
  omega
theorem k_bd {a b k P p : Int} (hn : 1 ≤ a * a + b * b ∧ a * a + b * b ≤ 400) : (0 ≤ k1 a b k P p ∧ k1 a b k P p ≤ 1000000) ∧ (0 ≤ k2 a b k P p ∧ k2 a b k P p ≤ 1000000) := by
  obtain ⟨h1, h2⟩ := oUV_bd (P := P) (p := p) hn
  have u := sq4 h1 h1
  have v := sq4 h2 h2
  have e : 2 * oV a b P p * oV a b P p = 2 * (oV a b P p * oV a b P p) := Int.mul_assoc _ _ _
  unfold k1 k2
  rw [e]
  constructor <;> split <;> (try split) <;> omega

theorem key_c {a b k P f g : Int} (h : schk a b k = 0) (F : Frm a b P f g) (p : Int) (hp : Due (0 ≤ p ∧ p < 400)) :
    TC R Try.prog screen_Ranks_1_f [.int .i64 p, .pel [.int .i64 a, .int .i64 b, .int .i64 k], .pel [.int .i64 P, .int .i64 f, .int .i64 g]] [] (fun v X => v = .tup [.int .i64 (k1 a b k P p), .int .i64 (k2 a b k P p)] ∧ X = []) := by
  dsimp only [Due] at hp
  obtain ⟨a1, a2, b1, b2, _, _, _, n1, n2⟩ := schk_ok h
  obtain ⟨h1, h2⟩ := oUV_bd (P := P) (p := p) ⟨n1, n2⟩
  have u := sq4 h1 h1
  have v := sq4 h2 h2
  have e : 2 * oV a b P p * oV a b P p = 2 * (oV a b P p * oV a b P p) := Int.mul_assoc _ _ _
  have oc := offset_c h F p (by unfold Due; omega)
  refine tc0 env screen_Ranks_1_s (by rfl) ?_
  dsimp only [screen_Ranks_1_c]
  unfold k1 k2
  repeat' (first
    | ((with_reducible refine TOps.any ?_); refine TOps.callV env (by rfl) (by rfl) (by rfl) (oc) ?_)
    | refine GZp_i ?_ ?_ ?_ ?_ ?_ ?_ ?_ ?_
    | with_reducible first | exact BzZq.mk | refine Tw.ret ?_ | refine ImZq.i fun h => ?_ | refine IkZq.i fun hk => ?_)
  · rw [if_pos h, if_pos h]; exact ⟨rfl, rfl, rfl⟩
  · rename_i h'; rw [if_neg h', if_pos h, if_neg h']; exact ⟨rfl, rfl, rfl⟩
  · rename_i h'; rw [if_neg h', if_neg h, if_neg h']; exact ⟨rfl, rfl, rfl⟩

/-- How two places are ordered. -/
def cmpP (a b k P p q : Int) : Int := if k1 a b k P p ≠ k1 a b k P q then k1 a b k P p - k1 a b k P q else if k2 a b k P p ≠ k2 a b k P q then k2 a b k P p - k2 a b k P q else p - q

theorem cmp_c {a b k P f g : Int} (h : schk a b k = 0) (F : Frm a b P f g) (p q : Int) (hp : Due (0 ≤ p ∧ p < 400)) (hq : Due (0 ≤ q ∧ q < 400)) :
    TC R Try.prog screen_Ranks_2_f [.int .i64 p, .int .i64 q, .pel [.fn screen_Ranks_1_f [.pel [.int .i64 a, .int .i64 b, .int .i64 k], .pel [.int .i64 P, .int .i64 f, .int .i64 g]]]] [] (fun v X => v = .int .i64 (cmpP a b k P p q) ∧ X = []) := by
  dsimp only [Due] at hp hq
  obtain ⟨a1, a2, b1, b2, _, _, _, n1, n2⟩ := schk_ok h
  obtain ⟨h1, h2⟩ := k_bd (k := k) (P := P) (p := p) ⟨n1, n2⟩
  obtain ⟨h3, h4⟩ := k_bd (k := k) (P := P) (p := q) ⟨n1, n2⟩
  have kp := key_c h F p (by unfold Due; omega)
  have kq := key_c h F q (by unfold Due; omega)
  refine tc0 env screen_Ranks_2_s (by rfl) ?_
  dsimp only [screen_Ranks_2_c]
  unfold cmpP
  generalize k1 a b k P p = x1 at *
  generalize k2 a b k P p = x2 at *
  generalize k1 a b k P q = y1 at *
  generalize k2 a b k P q = y2 at *
  repeat' (first
    | ((with_reducible refine TOps.any ?_); refine TOps.callV env (by rfl) (by rfl) (by rfl) (kp) ?_)
    | ((with_reducible refine TOps.any ?_); refine TOps.callV env (by rfl) (by rfl) (by rfl) (kq) ?_)
    | refine GZp_i ?_ ?_ ?_ ?_ ?_ ?_ ?_ ?_
    | with_reducible first | exact BzZq.mk | refine Tw.ret ?_ | refine ImZq.i fun h => ?_ | refine IkZq.i fun hk => ?_)
  · rw [if_pos h]; exact ⟨rfl, rfl, rfl⟩
  · rename_i h'; rw [if_neg (fun e => e h'), if_pos h]; exact ⟨rfl, rfl, rfl⟩
  · rename_i h'; rw [if_neg (fun e => e h'), if_neg (fun e => e h)]; exact ⟨rfl, rfl, rfl⟩

/-- A place of a cell, as the sort's elements stand for it. -/
def plI (x : Nat) : Int := if x < 400 then (x : Int) else 0
theorem plI_bd (x : Nat) : 0 ≤ plI x ∧ plI x < 400 := by unfold plI; split <;> omega
def cmpN (a b k P : Int) (x y : Nat) : Int := cmpP a b k P (plI x) (plI y)

theorem cmpN_swo (a b k P : Int) : Go.Sort.SWO (Go.Proofs.ltOf (cmpN a b k P)) := by
  have key : ∀ x y : Nat, Go.Proofs.ltOf (cmpN a b k P) x y = decide (k1 a b k P (plI x) < k1 a b k P (plI y) ∨ (k1 a b k P (plI x) = k1 a b k P (plI y) ∧ (k2 a b k P (plI x) < k2 a b k P (plI y) ∨ (k2 a b k P (plI x) = k2 a b k P (plI y) ∧ plI x < plI y)))) := fun x y => by
    unfold Go.Proofs.ltOf cmpN cmpP
    apply decide_eq_decide.2
    split
    · omega
    · split <;> omega
  refine ⟨fun x => ?_, fun x y z h1 h2 => ?_, fun x y z h1 h2 => ?_⟩
  · rw [key]; simp
  · rw [key] at *; simp only [decide_eq_true_eq] at *; omega
  · rw [key] at *; simp only [decide_eq_false_iff_not] at *; omega

/-- The sorted places. -/
def ordN (a b k P : Int) (n : Nat) : List Nat := srt (cmpN a b k P) (List.range n)
theorem ordN_perm {a b k P : Int} {n : Nat} : (ordN a b k P n).Perm (List.range n) := srt_perm (cmpN_swo a b k P) _

theorem sort_c {a b k P f g : Int} (h : schk a b k = 0) (F : Frm a b P f g) (n : Nat) (hn : Due (1 ≤ n ∧ n ≤ 400)) :
    TC R Try.prog slices_SortFunc___int_int__f [.sla 1 0 0 n, .fn screen_Ranks_2_f [.ptr 1 0]] [some (.arr Ei (tab n fun i => (i : Int))), some (.cells [.fn screen_Ranks_1_f [.ptr 2 0, .ptr 3 0]]), some (.cells [.int .i64 a, .int .i64 b, .int .i64 k]), some (.cells [.int .i64 P, .int .i64 f, .int .i64 g])] (fun v X => v = .tup [] ∧ X = [some (.arr Ei (tab n fun i => ((ordN a b k P n).getD i 0 : Int))), some (.cells [.fn screen_Ranks_1_f [.ptr 2 0, .ptr 3 0]]), some (.cells [.int .i64 a, .int .i64 b, .int .i64 k]), some (.cells [.int .i64 P, .int .i64 f, .int .i64 g])]) := by
  dsimp only [Due] at hn
  have e1 : (List.range n).map plI = tab n fun i => (i : Int) := List.map_congr_left fun i hi => by
    have : i < n := by simpa using hi
    unfold plI; rw [if_pos (by omega)]
  have hl : (ordN a b k P n).length = n := by rw [ordN_perm.length_eq]; simp
  have e2 : (ordN a b k P n).map plI = tab n fun i => ((ordN a b k P n).getD i 0 : Int) := is_tab 0 (by simpa using hl) fun i hi => by
    rw [getD_get _ (by simpa [hl] using hi), List.getElem_map, getD_get _ (by omega)]
    have hm : (ordN a b k P n)[i] ∈ List.range n := ordN_perm.mem_iff.1 (List.getElem_mem _)
    have : (ordN a b k P n)[i] < n := by simpa using hm
    unfold plI; rw [if_pos (by omega)]
  have hm := tc_sort (R := R) (P := Try.prog) (α := Nat) env srtLay (by kernel_rfl) Ei plI plI (by rfl) (fun x => by rfl) (cmpN a b k P) (cmpN_swo a b k P) screen_Ranks_2_f [.ptr 1 0]
    [.pel [.fn screen_Ranks_1_f [.pel [.int .i64 a, .int .i64 b, .int .i64 k], .pel [.int .i64 P, .int .i64 f, .int .i64 g]]]]
    [some (.cells [.fn screen_Ranks_1_f [.ptr 2 0, .ptr 3 0]]), some (.cells [.int .i64 a, .int .i64 b, .int .i64 k]), some (.cells [.int .i64 P, .int .i64 f, .int .i64 g])] (p := []) (by rfl) trivial
    (fun x y => cmp_c h F (plI x) (plI y) (plI_bd x) (plI_bd y)) (List.range n) (by simp; omega) (by simp; omega)
  rw [e1] at hm
  change TC R Try.prog slices_SortFunc___int_int__f _ _ _ at hm
  have e3 : (List.range n).length = n := by simp
  rw [e3] at hm
  refine hm.mono fun v X q => ?_
  rw [show (srt (cmpN a b k P) (List.range n)).map plI = tab n fun i => ((ordN a b k P n).getD i 0 : Int) from e2] at q
  exact q
end Go.Proofs.Ytagfanbodglplaa
