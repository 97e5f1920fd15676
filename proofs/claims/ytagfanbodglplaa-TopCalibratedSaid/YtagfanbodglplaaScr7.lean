/- Screens: the ranks of the places. -/
import Derived.Test.YtagfanbodglplaaScr6
import Derived.Test.YtagfanbodglplaaGo
namespace Go.Proofs.Ytagfanbodglplaa
open Go Go.Lite
set_option linter.unusedVariables false
set_option linter.unusedSimpArgs false
set_option maxRecDepth 100000
set_option maxHeartbeats 4000000
-- @simp rdi

/-- The places in their order. -/
def ordK (a b k P f g : Int) (n : Nat) : List Nat := if k = 3 then scN a b P f g n else ordN a b k P n
/-- The rank of a place. -/
def rkK (a b k P f g : Int) (n p : Nat) : Nat := (ordK a b k P f g n).idxOf p
def rks (a b k P f g : Int) (n : Nat) : List Int := tab n fun p => (rkK a b k P f g n p : Int)

theorem ordK_perm {a b k P f g : Int} (hn : 1 ≤ a * a + b * b ∧ a * a + b * b ≤ 400) (F : Frm a b P f g) {n : Nat} (en : a * a + b * b = n) : (ordK a b k P f g n).Perm (List.range n) := by
  unfold ordK
  split
  · exact scN_perm hn F en
  · exact ordN_perm
theorem ordK_len {a b k P f g : Int} (hn : 1 ≤ a * a + b * b ∧ a * a + b * b ≤ 400) (F : Frm a b P f g) {n : Nat} (en : a * a + b * b = n) : (ordK a b k P f g n).length = n := by
  rw [(ordK_perm hn F en).length_eq]; simp
theorem ordK_lt {a b k P f g : Int} (hn : 1 ≤ a * a + b * b ∧ a * a + b * b ≤ 400) (F : Frm a b P f g) {n : Nat} (en : a * a + b * b = n) {i : Nat} (hi : i < n) : (ordK a b k P f g n).getD i 0 < n := by
  have hl := ordK_len (k := k) hn F en
  have : (ordK a b k P f g n).getD i 0 ∈ ordK a b k P f g n := getD_mem (by omega)
  simpa using (ordK_perm hn F en).mem_iff.1 this
theorem ordK_nodup {a b k P f g : Int} (hn : 1 ≤ a * a + b * b ∧ a * a + b * b ≤ 400) (F : Frm a b P f g) {n : Nat} (en : a * a + b * b = n) : (ordK a b k P f g n).Nodup := (ordK_perm hn F en).nodup_iff.2 List.nodup_range
theorem rkK_lt {a b k P f g : Int} (hn : 1 ≤ a * a + b * b ∧ a * a + b * b ≤ 400) (F : Frm a b P f g) {n : Nat} (en : a * a + b * b = n) {p : Nat} (hp : p < n) : rkK a b k P f g n p < n := by
  have hl := ordK_len (k := k) hn F en
  have := List.idxOf_lt_length_iff.2 ((ordK_perm (k := k) hn F en).mem_iff.2 (by simpa using hp))
  unfold rkK
  omega
theorem rkK_ord {a b k P f g : Int} (hn : 1 ≤ a * a + b * b ∧ a * a + b * b ≤ 400) (F : Frm a b P f g) {n : Nat} (en : a * a + b * b = n) {i : Nat} (hi : i < n) : rkK a b k P f g n ((ordK a b k P f g n).getD i 0) = i := by
  have hl := ordK_len (k := k) hn F en
  unfold rkK
  rw [getD_get _ (by omega)]
  exact (ordK_nodup hn F en).idxOf_getElem i (by omega)
theorem ordK_rk {a b k P f g : Int} (hn : 1 ≤ a * a + b * b ∧ a * a + b * b ≤ 400) (F : Frm a b P f g) {n : Nat} (en : a * a + b * b = n) {p : Nat} (hp : p < n) : (ordK a b k P f g n).getD (rkK a b k P f g n p) 0 = p := by
  have hm : p ∈ ordK a b k P f g n := (ordK_perm hn F en).mem_iff.2 (by simpa using hp)
  have hlt := List.idxOf_lt_length_iff.2 hm
  unfold rkK
  rw [getD_get _ hlt]
  exact List.getElem_idxOf hlt
/-- The ranks while they are being written. -/
def rkU (a b k P f g : Int) (n i : Nat) : List Int := tab n fun p => if rkK a b k P f g n p < i then (rkK a b k P f g n p : Int) else 0
theorem rkU_len {a b k P f g : Int} {n i : Nat} : (rkU a b k P f g n i).length = n := tab_len
theorem rkU_step {a b k P f g : Int} (hn : 1 ≤ a * a + b * b ∧ a * a + b * b ≤ 400) (F : Frm a b P f g) {n : Nat} (en : a * a + b * b = n) {i : Nat} (hi : i < n) : rkU a b k P f g n (i + 1) = (rkU a b k P f g n i).set ((ordK a b k P f g n).getD i 0) i := by
  have hlt := ordK_lt (k := k) hn F en hi
  refine (is_tab 0 (by rw [List.length_set]; exact tab_len) fun q hq => ?_).symm
  by_cases e : (ordK a b k P f g n).getD i 0 = q
  · have := rkK_ord (k := k) hn F en hi
    rw [e] at this
    rw [e, getD_set_eq (by rw [rkU_len]; exact hq), this, if_pos (by omega)]
  · rw [getD_set_ne e]
    unfold rkU
    rw [tab_get hq]
    have hne : rkK a b k P f g n q ≠ i := fun h' => e (by rw [← h', ordK_rk hn F en hq])
    by_cases hq2 : rkK a b k P f g n q < i
    · rw [if_pos hq2, if_pos (by omega)]
    · rw [if_neg hq2, if_neg (by omega)]
theorem rkU_all {a b k P f g : Int} (hn : 1 ≤ a * a + b * b ∧ a * a + b * b ≤ 400) (F : Frm a b P f g) {n : Nat} (en : a * a + b * b = n) : rkU a b k P f g n n = rks a b k P f g n :=
  List.map_congr_left fun q hq => if_pos (rkK_lt hn F en (by simpa using hq))
theorem rkU_zero {a b k P f g : Int} {n : Nat} : rkU a b k P f g n 0 = List.replicate n 0 := by
  refine (is_tab 0 (by simp) fun i hi => ?_).symm
  rw [getD_repl hi, if_neg (by omega)]

theorem ranks_r {a b k P f g : Int} (h0 : schk a b k = 0) (F : Frm a b P f g) (oc : TC R Try.prog screen_Of_f [.agg [.int .i64 a, .int .i64 b, .int .i64 k]] [] (fun v X => v = .agg [.int .i64 P, .int .i64 f, .int .i64 g] ∧ X = [])) (n : Nat) (en : Due (a * a + b * b = n)) :
    TC R Try.prog screen_Ranks_f [.agg [.int .i64 a, .int .i64 b, .int .i64 k]] [] (fun v X => v = .sla 1 0 0 n ∧ X = [some (.arr Ei (rks a b k P f g n))]) := by
  dsimp only [Due] at en
  obtain ⟨a1, a2, b1, b2, _, _, _, n1, n2⟩ := schk_ok h0
  have q1 := sq_bd ⟨a1, a2⟩
  have q2 := sq_bd ⟨b1, b2⟩
  have hn : 1 ≤ n ∧ n ≤ 400 := by omega
  have sc := scatter_c h0 F n (by unfold Due; omega)
  have so := sort_c h0 F n (by unfold Due; omega)
  refine tc env screen_Ranks_s (by rfl) ?_
  dsimp only [screen_Ranks_c]
  repeat' (first
    | ((with_reducible refine TOps.any ?_); refine TOps.callV env (by rfl) (by rfl) (by rfl) (oc) ?_)
    | refine GZp_i ?_ ?_ ?_ ?_ ?_ ?_ ?_ ?_
    | with_reducible first | exact BzZq.mk | refine Tw.ret ?_ | refine ImZq.i fun h => ?_ | refine IkZq.i fun hk => ?_)
  rw [en]
  simp only [Int.toNat_natCast]
  refine Tw.loopK [1, 2, 3, 4, 27] (fun i : Nat => i ≤ n) (fun i => n - i) (fun i => [(28, .int .i64 i), (5, .sla 1 2 0 n)])
    (fun i => [some (.cells [.int .i64 a, .int .i64 b, .int .i64 k]), some (.cells [.int .i64 P, .int .i64 f, .int .i64 g]), some (.arr Ei (ptab n i fun i => (i : Int)))]) ⟨0, by omega, TWk.fcanon env [some 0, some 1, some 2] (by rfl) ?_⟩ (fun i hi => ?_)
  · repeat' (first
      | exact ptab_zero
      | refine GZ_i ?_ ?_ ?_ ?_ ?_ ?_ ?_ ?_
      | with_reducible first | exact BzZq.mk | refine Tw.ret ?_ | refine ImZq.i fun h => ?_ | refine IkZq.i fun hk => ?_)
  have pl : (ptab n i fun i => (i : Int)).length = n := ptab_len
  rcases Nat.lt_or_ge i n with hi | hi
  · have ps : ptab n (i + 1) (fun i => (i : Int)) = (ptab n i fun i => (i : Int)).set i i := (ptab_set (f := fun i => (i : Int))).symm
    repeat' (first
      | refine GZy_i pl ?_ ?_ ?_ ?_ ?_ ?_ ?_ ?_
      | with_reducible first | exact BzZq.mk | refine Tw.ret ?_ | refine ImZq.i fun h => ?_ | refine IkZq.i fun hk => ?_)
    refine ⟨i + 1, by omega, by omega, TWk.fcanon env [some 0, some 1, some 2] (by rfl) ?_⟩
    repeat' (first
      | exact ps
      | refine GZ_i ?_ ?_ ?_ ?_ ?_ ?_ ?_ ?_
      | with_reducible first | exact BzZq.mk | refine Tw.ret ?_ | refine ImZq.i fun h => ?_ | refine IkZq.i fun hk => ?_)
  obtain rfl : n = i := by omega
  rw [ptab_all]
  have tl : (tab n fun i => ((ordK a b k P f g n).getD i 0 : Int)).length = n := tab_len
  by_cases hk : k = 3
  · have eo : ordK a b k P f g n = scN a b P f g n := if_pos hk
    rw [← eo] at sc
    repeat' (first
      | ((with_reducible refine TOps.any ?_); refine TOps.callV env (by rfl) (by rfl) (by rfl) (sc) ?_)
      | refine GZp_i ?_ ?_ ?_ ?_ ?_ ?_ ?_ ?_
      | with_reducible first | exact BzZq.mk | refine Tw.ret ?_ | refine ImZq.i fun h => ?_ | refine IkZq.i fun hk => ?_)
    simp only [Int.toNat_natCast]
    refine Tw.loopK [5, 48] (fun i : Nat => i ≤ n) (fun i => n - i) (fun i => [(50, .int .i64 i), (49, .int .i64 n), (8, .sla 1 0 0 n)])
      (fun i => [some (.arr Ei (rkU a b k P f g n i))]) ⟨0, by omega, TWk.fcanon env [some 4] (by rfl) ?_⟩ (fun i hi => ?_)
    · repeat' (first
        | exact rkU_zero
        | refine GZx_i tl ?_ ?_ ?_ ?_ ?_ ?_ ?_ ?_
        | with_reducible first | exact BzZq.mk | refine Tw.ret ?_ | refine ImZq.i fun h => ?_ | refine IkZq.i fun hk => ?_)
    rcases Nat.lt_or_ge i n with hi | hi
    · have h1 := ordK_lt (k := k) (f := f) (g := g) ⟨n1, n2⟩ F en hi
      have h2 := rkU_step (k := k) (f := f) (g := g) ⟨n1, n2⟩ F en hi
      have h3 := rkU_len (a := a) (b := b) (k := k) (P := P) (f := f) (g := g) (n := n) (i := i)
      have h4 : (tab n fun i => ((ordK a b k P f g n).getD i 0 : Int)).getD i 0 = ((ordK a b k P f g n).getD i 0 : Nat) := tab_get hi
      repeat' (first
        | refine GZy_i (And.intro tl (And.intro h4 h3)) ?_ ?_ ?_ ?_ ?_ ?_ ?_ ?_
        | with_reducible first | exact BzZq.mk | refine Tw.ret ?_ | refine ImZq.i fun h => ?_ | refine IkZq.i fun hk => ?_)
      refine ⟨i + 1, by omega, by omega, TWk.fcanon env [some 0] (by rfl) ?_⟩
      rw [h2]
      have h5 : (tab n fun i => ((ordK a b k P f g n).getD i 0 : Int)).getD i (R.d Ei) = ((ordK a b k P f g n).getD i 0 : Nat) := h4
      simp only [Int.toNat_natCast, Nat.add_zero, h5]
      repeat' (first
        | refine GZ_i ?_ ?_ ?_ ?_ ?_ ?_ ?_ ?_
        | with_reducible first | exact BzZq.mk | refine Tw.ret ?_ | refine ImZq.i fun h => ?_ | refine IkZq.i fun hk => ?_)
    · obtain rfl : n = i := by omega
      rw [rkU_all ⟨n1, n2⟩ F en]
      have rl : (rks a b k P f g n).length = n := tab_len
      repeat' (first
        | refine GZy_i rl ?_ ?_ ?_ ?_ ?_ ?_ ?_ ?_
        | with_reducible first | exact BzZq.mk | refine Tw.ret ?_ | refine ImZq.i fun h => ?_ | refine IkZq.i fun hk => ?_)
      exact ⟨rfl, rfl⟩
  · have eo : ordK a b k P f g n = ordN a b k P n := if_neg hk
    rw [← eo] at so
    repeat' (first
      | ((with_reducible refine TOps.any ?_); refine TOps.callHE env [2, 3, 0, 1] (so) (by rfl) (by rfl) (by rfl) (by rfl) (by rfl) (by rfl) (by repeat' (first | exact trivial | refine ⟨rfl, ?_⟩)) ?_)
      | refine GZp_i ?_ ?_ ?_ ?_ ?_ ?_ ?_ ?_
      | with_reducible first | exact BzZq.mk | refine Tw.ret ?_ | refine ImZq.i fun h => ?_ | refine IkZq.i fun hk => ?_)
    refine Tw.frz env 2 (by rfl) (by rfl) (by rfl) ?_ ?_ ?_
    · repeat' (first
        | refine GZx_i tl ?_ ?_ ?_ ?_ ?_ ?_ ?_ ?_
        | with_reducible first | exact BzZq.mk | refine Tw.ret ?_ | refine ImZq.i fun h => ?_ | refine IkZq.i fun hk => ?_)
    · repeat' (first
        | refine GZ_i ?_ ?_ ?_ ?_ ?_ ?_ ?_ ?_
        | with_reducible first | exact BzZq.mk | refine Tw.ret ?_ | refine ImZq.i fun h => ?_ | refine IkZq.i fun hk => ?_)
    rw [cut_all tl.symm]
    simp only [Int.toNat_natCast]
    refine Tw.loopK [5, 48] (fun i : Nat => i ≤ n) (fun i => n - i) (fun i => [(50, .int .i64 i), (49, .int .i64 n), (8, .sla 1 0 0 n)])
      (fun i => [some (.arr Ei (rkU a b k P f g n i))]) ⟨0, by omega, TWk.fcanon env [some 4] (by rfl) ?_⟩ (fun i hi => ?_)
    · repeat' (first
        | exact rkU_zero
        | refine GZx_i tl ?_ ?_ ?_ ?_ ?_ ?_ ?_ ?_
        | with_reducible first | exact BzZq.mk | refine Tw.ret ?_ | refine ImZq.i fun h => ?_ | refine IkZq.i fun hk => ?_)
    rcases Nat.lt_or_ge i n with hi | hi
    · have h1 := ordK_lt (k := k) (f := f) (g := g) ⟨n1, n2⟩ F en hi
      have h2 := rkU_step (k := k) (f := f) (g := g) ⟨n1, n2⟩ F en hi
      have h3 := rkU_len (a := a) (b := b) (k := k) (P := P) (f := f) (g := g) (n := n) (i := i)
      have h4 : (tab n fun i => ((ordK a b k P f g n).getD i 0 : Int)).getD i 0 = ((ordK a b k P f g n).getD i 0 : Nat) := tab_get hi
      repeat' (first
        | refine GZy_i (And.intro tl (And.intro h4 h3)) ?_ ?_ ?_ ?_ ?_ ?_ ?_ ?_
        | with_reducible first | exact BzZq.mk | refine Tw.ret ?_ | refine ImZq.i fun h => ?_ | refine IkZq.i fun hk => ?_)
      refine ⟨i + 1, by omega, by omega, TWk.fcanon env [some 0] (by rfl) ?_⟩
      rw [h2]
      have h5 : (tab n fun i => ((ordK a b k P f g n).getD i 0 : Int)).getD i (R.d Ei) = ((ordK a b k P f g n).getD i 0 : Nat) := h4
      simp only [Int.toNat_natCast, Nat.add_zero, h5]
      repeat' (first
        | refine GZ_i ?_ ?_ ?_ ?_ ?_ ?_ ?_ ?_
        | with_reducible first | exact BzZq.mk | refine Tw.ret ?_ | refine ImZq.i fun h => ?_ | refine IkZq.i fun hk => ?_)
    · obtain rfl : n = i := by omega
      rw [rkU_all ⟨n1, n2⟩ F en]
      have rl : (rks a b k P f g n).length = n := tab_len
      repeat' (first
        | refine GZy_i rl ?_ ?_ ?_ ?_ ?_ ?_ ?_ ?_
        | with_reducible first | exact BzZq.mk | refine Tw.ret ?_ | refine ImZq.i fun h => ?_ | refine IkZq.i fun hk => ?_)
      exact ⟨rfl, rfl⟩

end Go.Proofs.Ytagfanbodglplaa
