/- The law TopPresets. -/
import Derived.Test.YtihminfnphichaaPst2
import Derived.Test.YtihminfnphichaaPst3
import Derived.Test.YtihminfnphichaaPst4
import Derived.Test.YtihminfnphichaaSuChk
import Derived.Test.YtihminfnphichaaPrsR
import Derived.Test.YtihminfnphichaaPrsT
import Derived.Test.YtihminfnphichaaTMod
import Derived.Test.YtihminfnphichaaLTopPresets
import Derived.Test.YtihminfnphichaaGo
namespace Go.Proofs.Ytihminfnphichaa
open Go Go.Lite
set_option linter.unusedVariables false
set_option linter.unusedSimpArgs false
set_option maxRecDepth 100000
set_option maxHeartbeats 100000000
-- @simp rdi rdy rd2iLyJ rdLiJ

theorem own_in (t : Int) : 0 ≤ t % 8001 ∧ t % 8001 ≤ 8000 := by omega
def psS' (l : List Bq) (Z : Nat) (own : List Int) : Su := ⟨Z, 0, 0, 24, own, tab l.length fun i => tab Z (kyQ Z (l.getD i dBq) (own.getD i 0)), tab l.length fun i => tab Z (ldQ Z (l.getD i dBq))⟩
theorem psS_ok {l : List Bq} {Z : Nat} {own : List Int} (hl : 1 ≤ l.length ∧ l.length ≤ 3) (hZ : 1 ≤ Z ∧ Z ≤ 16) (ho : own.length = l.length) (ht : ∀ i, i < l.length → 0 ≤ own.getD i 0 ∧ own.getD i 0 ≤ 8000) (ok : ∀ i, i < l.length → BqOk Z (l.getD i dBq)) : SuOk (psS' l Z own) l.length := by
  refine ⟨by omega, hZ, by show (0 : Int) ≤ 0 ∧ (0 : Int) ≤ 4000; omega, by show (0 : Int) ≤ 0 ∧ (0 : Int) ≤ 1000; omega, by show (0 : Int) ≤ 24 ∧ (24 : Int) ≤ 24000; omega, ho, tab_len, tab_len, fun i hi => ?_, fun i hi => ?_, fun i hi => ?_⟩
  · have := ht i hi
    show 0 ≤ own.getD i 0 ∧ own.getD i 0 ≤ 24000
    omega
  · have e : (psS' l Z own).ks.getD i [] = tab Z (kyQ Z (l.getD i dBq) (own.getD i 0)) := tab_get hi
    rw [e]
    refine ⟨tab_len, fun z hz => ?_⟩
    have := ht i hi
    rw [tab_get (show z < Z from hz)]
    exact kyQ_in (ok i hi) hZ.1 (by omega)
  · have e : (psS' l Z own).ld.getD i [] = tab Z (ldQ Z (l.getD i dBq)) := tab_get hi
    rw [e]
    refine ⟨tab_len, fun z hz => ?_⟩
    rw [tab_get (show z < Z from hz)]
    exact ldQ_in (ok i hi) hZ.1
theorem bqL_app {l : List Bq} {q : Bq} : bqL (l ++ [q]) = bqL l ++ [bqT q] := by unfold bqL; rw [List.map_append]; rfl
theorem TopPresets_law (pl : List (Int × Int × List Int)) (a b k zo : Int) (tg : List Int) (wp : pl.length ≤ 9223372036854775807 ∧ ∀ y ∈ pl, W2iLyJ y) (_ : rng .i64 a) (_ : rng .i64 b) (_ : rng .i64 k) (wz : rng .i64 zo) (wt : tg.length ≤ 9223372036854775807 ∧ ∀ y ∈ tg, Wi y) :
    TC R Try.prog T_TopPresets_f [.lst E2iLyJ pl, .agg [.int .i64 a, .int .i64 b, .int .i64 k], .int .i64 zo, .lst Ei tg] [] (fun v X => v = .bool true ∧ X = []) := by
  have mz := sMod_c zo 4 (by unfold Due; simp only [rng] at wz; omega)
  obtain ⟨Z, eZ⟩ : ∃ Z : Nat, 1 + zo % 4 = Z := ⟨(1 + zo % 4).toNat, by omega⟩
  have hZ : 1 ≤ Z ∧ Z ≤ 4 := by omega
  have hz4 : 0 ≤ zo % 4 ∧ zo % 4 < 4 := by omega
  refine tc0 env T_TopPresets_s (by rfl) ?_
  dsimp only [T_TopPresets_c]
  repeat' (first
    | ((with_reducible refine TOps.any ?_); refine TOps.callV env (by rfl) (by rfl) (by rfl) (sPress_c) ?_)
    | ((with_reducible refine TOps.any ?_); refine TOps.callV env (by rfl) (by rfl) (by rfl) (mz) ?_)
    | refine GZp_i_y_2iLyJ_LiJ ?_ ?_ ?_ ?_ ?_ ?_ ?_ ?_
    | with_reducible first | exact BzZq.mk | refine Tw.ret ?_ | refine ImZq.i fun h => ?_ | refine IkZq.i fun hk => ?_)
  rw [eZ]
  obtain ⟨N, eN⟩ : ∃ N : Nat, min (min (pl.length : Int) (tg.length : Int)) 3 = N := ⟨min (min pl.length tg.length) 3, by omega⟩
  have hN : N ≤ pl.length ∧ N ≤ tg.length ∧ N ≤ 3 := by omega
  rw [eN]
  clear eN mz eZ hz4
  have wpI : ∀ i, i < pl.length → W2iLyJ (pl.getD i (0, 0, [])) := fun i hi => wp.2 _ (getD_mem hi)
  have wtI : ∀ i, i < tg.length → rng .i64 (tg.getD i 0) := fun i hi => wt.2 _ (getD_mem hi)
  obtain ⟨own, eown⟩ : ∃ own : Nat → Int, own = fun i => tg.getD i 0 % 8001 := ⟨_, rfl⟩
  refine Tw.loopK [0, 2, 3, 5, 9] (fun l : List Bq => l.length ≤ N ∧ ∀ i, i < l.length → BqOk Z (l.getD i dBq)) (fun l => N - l.length) (fun l => [(36, .int .i64 l.length), (35, .int .i64 N), (10, .sla 3 1 0 l.length), (11, .sla 1 2 0 l.length)]) (fun l => [some (.cells [.int .i64 a, .int .i64 b, .int .i64 k]), some (.arr E2iLyJ (bqL l)), some (.arr Ei (tab l.length own))]) ⟨[], ⟨Nat.zero_le _, fun i hi => absurd hi (by simp)⟩, TWk.fcanon env [some 0, none, none] (by rfl) ?_⟩ (fun l hl => ?_)
  · repeat' (first
      | exact rfl
      | refine GZ_i_y_2iLyJ_LiJ ?_ ?_ ?_ ?_ ?_ ?_ ?_ ?_
      | with_reducible first | exact BzZq.mk | refine Tw.ret ?_ | refine ImZq.i fun h => ?_ | refine IkZq.i fun hk => ?_)
  obtain ⟨hl, ok⟩ := hl
  rcases Nat.lt_or_ge l.length N with hi | hi
  · obtain ⟨i, ei⟩ : ∃ i, i = l.length := ⟨_, rfl⟩
    have lb : (bqL l).length = i := by rw [ei]; exact bqL_len
    have lo : (tab i own).length = i := tab_len
    rw [← ei] at hl hi ⊢
    have wi := wpI i (by omega)
    have ms := sMod_c (tg.getD i 0) 8001 (by have := wtI i (by omega); unfold Due; simp only [rng] at this; omega)
    have ap := apply_any (pl.getD i (0, 0, [])).1 (pl.getD i (0, 0, [])).2.1 a b k (pl.getD i (0, 0, [])).2.2 wi.2.2.1 (fun j hj => by
      have := wi.2.2.2 _ (getD_mem (d := (0 : Int)) hj)
      simpa [Wy, rng] using this)
    rcases ap with ⟨e, he, ap⟩ | ⟨q, q1, q2, ap⟩
    · repeat' (first
        | ((with_reducible refine TDr.any ?_); refine TDr.callHD env [] (ap) (by first | rfl | assumption) (by rfl) (by rfl) (by rfl) (by rfl) (by rfl) (fun _ => by rfl) (fun _ => by repeat' (first | exact trivial | refine ⟨rfl, ?_⟩)) (fun _ => by rfl) (fun _ => by rfl) ?_)
        | refine GZp_i_y_2iLyJ_LiJ ?_ ?_ ?_ ?_ ?_ ?_ ?_ ?_
        | with_reducible first | exact BzZq.mk | refine Tw.ret ?_ | refine ImZq.i fun h => ?_ | refine IkZq.i fun hk => ?_)
      all_goals first | exact ⟨rfl, rfl, rfl⟩ | skip
    · rcases Nat.lt_or_ge q.1 Z with hz | hz
      · repeat' (first
          | ((with_reducible refine TDr.any ?_); refine TDr.callHD env [] (ap) (by first | rfl | assumption) (by rfl) (by rfl) (by rfl) (by rfl) (by rfl) (fun _ => by rfl) (fun _ => by repeat' (first | exact trivial | refine ⟨rfl, ?_⟩)) (fun _ => by rfl) (fun _ => by rfl) ?_)
          | refine GZp_i_y_2iLyJ_LiJ ?_ ?_ ?_ ?_ ?_ ?_ ?_ ?_
          | with_reducible first | exact BzZq.mk | refine Tw.ret ?_ | refine ImZq.i fun h => ?_ | refine IkZq.i fun hk => ?_)
        all_goals first | exact ⟨rfl, rfl, rfl⟩ | skip
      · have e3 : bqL (l ++ [q]) = cut (bqL l) 0 i ++ cut [((q.1 : Int), (q.2.1 : Int), bm q.1 q.2.1 q.2.2)] 0 1 := by rw [cut_all lb.symm, bqL_app]; rfl
        have e4 : tab (i + 1) own = cut (tab i own) 0 i ++ cut [tg.getD i 0 % 8001] 0 1 := by rw [cut_all tab_len.symm, tab_succ, eown]; rfl
        have el : (l ++ [q]).length = i + 1 := by rw [List.length_append, ei]; rfl
        repeat' (first
          | ((with_reducible refine TDr.any ?_); refine TDr.callHD env [] (ap) (by first | rfl | assumption) (by rfl) (by rfl) (by rfl) (by rfl) (by rfl) (fun _ => by rfl) (fun _ => by repeat' (first | exact trivial | refine ⟨rfl, ?_⟩)) (fun _ => by rfl) (fun _ => by rfl) ?_)
          | ((with_reducible refine TDr.any ?_); refine TDr.callE env (by first | rfl | assumption) (by rfl) (by rfl) ?_ (ms) (by rfl) (by rfl) ?_)
          | refine GZy_i_y_2iLyJ_LiJ (And.intro lb lo) ?_ ?_ ?_ ?_ ?_ ?_ ?_ ?_
          | with_reducible first | exact BzZq.mk | refine Tw.ret ?_ | refine ImZq.i fun h => ?_ | refine IkZq.i fun hk => ?_)
        · exact ⟨rfl, rfl, rfl⟩
        refine ⟨l ++ [q], ⟨by omega, fun j hj => ?_⟩, by omega, ?_⟩
        · by_cases e : j < i
          · rw [List.getD_eq_getElem?_getD, List.getElem?_append_left (by omega), ← List.getD_eq_getElem?_getD]
            exact ok j (by omega)
          · obtain rfl : j = l.length := by omega
            rw [List.getD_eq_getElem?_getD, List.getElem?_append_right (Nat.le_refl _), Nat.sub_self]
            exact ⟨q1, q2, hz⟩
        · rw [el]
          refine TWk.fcanon env [some 0, some 5, some 7] (by rfl) ?_
          repeat' (first
            | exact e3
            | exact e4
            | exact rfl
            | refine GZ_i_y_2iLyJ_LiJ ?_ ?_ ?_ ?_ ?_ ?_ ?_ ?_
            | with_reducible first | exact BzZq.mk | refine Tw.ret ?_ | refine ImZq.i fun h => ?_ | refine IkZq.i fun hk => ?_)
  · obtain rfl : N = l.length := by omega
    by_cases h0 : l.length = 0
    · repeat' (first
        | refine GZp_i_y_2iLyJ_LiJ ?_ ?_ ?_ ?_ ?_ ?_ ?_ ?_
        | with_reducible first | exact BzZq.mk | refine Tw.ret ?_ | refine ImZq.i fun h => ?_ | refine IkZq.i fun hk => ?_)
      exact ⟨rfl, rfl, rfl⟩
    have lb : (bqL l).length = l.length := bqL_len
    have lo : (tab l.length own).length = l.length := tab_len
    refine Tw.frz env 1 (by rfl) (by rfl) (by rfl) ?_ ?_ ?_
    · repeat' (first
        | refine GZx_i_y_2iLyJ_LiJ lb ?_ ?_ ?_ ?_ ?_ ?_ ?_ ?_
        | with_reducible first | exact BzZq.mk | refine Tw.ret ?_ | refine ImZq.i fun h => ?_ | refine IkZq.i fun hk => ?_)
    · repeat' (first
        | refine GZx_i_y_2iLyJ_LiJ lb ?_ ?_ ?_ ?_ ?_ ?_ ?_ ?_
        | with_reducible first | exact BzZq.mk | refine Tw.ret ?_ | refine ImZq.i fun h => ?_ | refine IkZq.i fun hk => ?_)
    refine Tw.frz env 2 (by rfl) (by rfl) (by rfl) ?_ ?_ ?_
    · repeat' (first
        | refine GZx_i_y_2iLyJ_LiJ lo ?_ ?_ ?_ ?_ ?_ ?_ ?_ ?_
        | with_reducible first | exact BzZq.mk | refine Tw.ret ?_ | refine ImZq.i fun h => ?_ | refine IkZq.i fun hk => ?_)
    · repeat' (first
        | refine GZx_i_y_2iLyJ_LiJ lo ?_ ?_ ?_ ?_ ?_ ?_ ?_ ?_
        | with_reducible first | exact BzZq.mk | refine Tw.ret ?_ | refine ImZq.i fun h => ?_ | refine IkZq.i fun hk => ?_)
    rw [cut_all lb.symm, cut_all lo.symm]
    obtain ⟨tw, etw⟩ : ∃ tw, tw = tab l.length own := ⟨_, rfl⟩
    rw [← etw] at lo ⊢
    have ht : ∀ i, i < l.length → 0 ≤ tw.getD i 0 ∧ tw.getD i 0 ≤ 8000 := fun i hi => by
      rw [etw, tab_get hi, eown]
      exact own_in _
    have pc := presets_c l Z tw (by unfold Due; omega) (by unfold Due; omega) (by unfold Due; exact lo) (fun i hi => by have := ht i hi; omega) ok
    obtain ⟨S, eS⟩ : ∃ S, S = psS' l Z tw := ⟨_, rfl⟩
    have so : SuOk S l.length := by rw [eS]; exact psS_ok (by omega) (by omega) lo ht ok
    have hc := slU_chk so
    have rc := nilS (hx := rfl) (hy := rfl) (run_c S l.length [] 130 so hc rfl (by simp) (by unfold Due; omega))
    have st := fun j (hj : j < 130) => run_st (S := S) (n := 130) (k := j) so hj
    have gd := fun j (hj : j < 130) (h2 : 120 ≤ j) => preset_good (S := S) (n := 130) (k := j) so (by rw [eS]; rfl) (by rw [eS]; rfl) (by rw [eS]; rfl) (fun i hi => by rw [eS]; exact ht i hi) (fun i z hi hz => by
      rw [eS] at hz ⊢
      have hz' : z < Z := hz
      show ((tab l.length fun i => tab Z (kyQ Z (l.getD i dBq) (tw.getD i 0))).getD i []).getD z 0 = min 1000 (near (tw.getD i 0 * (8 + ((tab l.length fun i => tab Z (ldQ Z (l.getD i dBq))).getD i []).getD z 0)) 128)
      rw [tab_get hi, tab_get hi, tab_get hz', tab_get hz']
      rfl) hj (by omega) h2
    obtain ⟨L, eL⟩ : ∃ L, L = runL S l.length [] 130 := ⟨_, rfl⟩
    have lL : L.length = 130 := by rw [eL]; exact tab_len
    rw [← eL] at rc st gd
    clear eL
    have tl := tally_c L (by unfold Due; omega)
    have c2 : cnS L 2 L.length = 0 := cnS_none _ fun j hj => by have := st j (by omega); omega
    have cs := cnS_sum (l := L) L.length (fun j hj => by have := st j (by omega); omega)
    have c0 := cnS_in (l := L) (st := 0) L.length
    have c1 := cnS_in (l := L) (st := 1) L.length
    rw [lL] at tl c2 cs c0 c1
    have c01 : cnS L 0 130 + cnS L 1 130 = 130 := by omega
    obtain ⟨dL, edL⟩ : ∃ dL, dL = List.drop (120 : Int).toNat L := ⟨_, rfl⟩
    have sd : ∀ j, j < dL.length → (dL.getD j (R.d E2iL2iJLLiJJi)).2.1 = 0 := fun j hj => by
      have ea : (120 : Int).toNat = 120 := rfl
      rw [edL, ea] at hj ⊢
      rw [List.length_drop] at hj
      rw [List.getD_eq_getElem?_getD, List.getElem?_drop, ← List.getD_eq_getElem?_getD]
      exact gd _ (by omega) (by omega)
    have ld9 : dL.length ≤ 130 := by rw [edL, List.length_drop]; omega
    rw [eS] at rc
    have rc2 : TC R Try.prog press_Run_f [.agg [.int .i64 Z, .int .i64 (0 : Int), .int .i64 (0 : Int), .int .i64 (24 : Int), .lst Ei tw, .lst ELiJ (tab l.length fun i => tab Z (kyQ Z (l.getD i dBq) (tw.getD i 0))), .lst ELiJ (tab l.length fun i => tab Z (ldQ Z (l.getD i dBq)))], .nils, .int .i64 (130 : Int)] [] (fun v X => v = .tup [.lst E2iL2iJLLiJJi L, .int .i64 0] ∧ X = []) := rc
    clear st gd rc hc so ok
    repeat' (first
      | ((with_reducible refine TOps.any ?_); refine TOps.callV env (by rfl) (by rfl) (by rfl) (pc) ?_)
      | ((with_reducible refine TOps.any ?_); refine TOps.callV env (by rfl) (by rfl) (by rfl) (rc2) ?_)
      | ((with_reducible refine TOps.any ?_); refine TOps.callV env (by rfl) (by rfl) (by rfl) (tl) ?_)
      | refine GZy_i_y_2iLyJ_LiJ (And.intro lL (And.intro c2 c01)) ?_ ?_ ?_ ?_ ?_ ?_ ?_ ?_
      | with_reducible first | exact BzZq.mk | refine Tw.ret ?_ | refine ImZq.i fun h => ?_ | refine IkZq.i fun hk => ?_)
    rw [← edL]
    refine Tw.loopK [123] (fun k : Nat => k ≤ dL.length) (fun k => dL.length - k) (fun k => [(125, .int .i64 k), (124, .int .i64 dL.length)]) (fun _ => []) ⟨0, by omega, TWk.fcanon env [] (by rfl) ?_⟩ (fun k hk => ?_)
    · repeat' (first
        | refine GZ_i_y_2iLyJ_LiJ ?_ ?_ ?_ ?_ ?_ ?_ ?_ ?_
        | with_reducible first | exact BzZq.mk | refine Tw.ret ?_ | refine ImZq.i fun h => ?_ | refine IkZq.i fun hk => ?_)
    rcases Nat.lt_or_ge k dL.length with hk | hk
    · have sk := sd k hk
      clear sd rc2
      repeat' (first
        | refine GZy_i_y_2iLyJ_LiJ sk ?_ ?_ ?_ ?_ ?_ ?_ ?_ ?_
        | with_reducible first | exact BzZq.mk | refine Tw.ret ?_ | refine ImZq.i fun h => ?_ | refine IkZq.i fun hk => ?_)
      refine ⟨k + 1, by omega, by omega, TWk.fcanon env [] (by rfl) ?_⟩
      repeat' (first
        | refine GZ_i_y_2iLyJ_LiJ ?_ ?_ ?_ ?_ ?_ ?_ ?_ ?_
        | with_reducible first | exact BzZq.mk | refine Tw.ret ?_ | refine ImZq.i fun h => ?_ | refine IkZq.i fun hk => ?_)
    · obtain rfl : dL.length = k := by omega
      repeat' (first
        | refine GZp_i_y_2iLyJ_LiJ ?_ ?_ ?_ ?_ ?_ ?_ ?_ ?_
        | with_reducible first | exact BzZq.mk | refine Tw.ret ?_ | refine ImZq.i fun h => ?_ | refine IkZq.i fun hk => ?_)
      exact ⟨rfl, rfl, rfl⟩
end Go.Proofs.Ytihminfnphichaa
