/- Conditions: tones within the total, tables applied. -/
import Derived.Test.YtogbkhopanaoiaaCnd4
import Derived.Test.YtogbkhopanaoiaaGo
namespace Go.Proofs.Ytogbkhopanaoiaa
open Go Go.Lite
set_option linter.unusedVariables false
set_option linter.unusedSimpArgs false
set_option maxRecDepth 100000
set_option maxHeartbeats 4000000
-- @simp rdi rd2i rdy

abbrev inkA (l : List Int) : List (TV A) := [.int .u8 (l.getD 0 0), .int .u8 (l.getD 1 0), .int .u8 (l.getD 2 0), .int .u8 (l.getD 3 0), .int .u8 (l.getD 4 0), .int .u8 (l.getD 5 0), .int .u8 (l.getD 6 0), .int .u8 (l.getD 7 0)]
def blk (c : Cnd) : Int := if c.pr.length = 4 then c.pr.getD 3 0 else -1
theorem ds_in {l : List Int} {n : Int} (h : dsE l n = 0) {i : Nat} (hi : i < l.length) : 0 ≤ l.getD i 0 ∧ l.getD i 0 < n := by
  have h1 := fstE_zero.1 h i hi
  unfold dsF at h1
  split at h1
  · omega
  · omega
theorem blk_bd {c : Cnd} (h : CndOk c) : -1 ≤ blk c ∧ blk c < c.inks.length := by
  unfold blk
  have := h.n
  split
  · have := ds_in h.dp (i := 3) (by omega)
    omega
  · omega
theorem limited_c (c : Cnd) (t : List Int) (h : CndOk c) (ht : inTone t) (hl : t.length = c.inks.length) :
    TC R Try.prog condition_limited_f [.pel (encC c), .lst Ei t] [] (fun v X => v = .agg (inkA (quickL t (blk c) c.tot)) ∧ X = []) := by
  have hn := h.n
  have bb := blk_bd h
  have ok : InkOk t (blk c) c.tot := ⟨ht, by omega, h.tot⟩
  have qc := quick_c t (blk c) c.tot ok (by unfold Due; omega)
  obtain ⟨l, hL⟩ : ∃ l, l = quickL t (blk c) c.tot := ⟨_, rfl⟩
  have ll : l.length = t.length := by rw [hL]; exact quickL_len _ _ _
  have lb : ∀ i, i < l.length → 0 ≤ l.getD i 0 ∧ l.getD i 0 ≤ 255 := fun i hi => by
    rw [hL] at hi ⊢
    exact quickL_tone ok i hi
  rw [← hL] at qc
  have l0 : ∀ i, 0 ≤ l.getD i 0 ∧ l.getD i 0 ≤ 255 := fun i => by
    rcases Nat.lt_or_ge i l.length with h1 | h1
    · exact lb i h1
    · rw [List.getD_eq_getElem?_getD, List.getElem?_eq_none h1]; decide
  have e8 : ptab 8 l.length (fun i => l.getD i 0) = tab 8 fun i => l.getD i 0 := tab_congr fun i _ => by
    by_cases h1 : i < l.length
    · rw [if_pos h1]
    · rw [if_neg h1, List.getD_eq_getElem?_getD, List.getElem?_eq_none (by omega)]; rfl
  have pr := h.pr
  obtain ⟨b, hb⟩ : ∃ b, b = blk c := ⟨_, rfl⟩
  rw [← hb] at qc
  refine tc0 env condition_limited_s (by rfl) ?_
  dsimp only [condition_limited_c, encC]
  rw [← hL]
  by_cases h4 : c.pr.length = 4
  · have e3 : c.pr.getD 3 0 = b := by rw [hb]; unfold blk; rw [if_pos h4]
    have e3b : c.pr.getD (Int.toNat 3) (R.d Ei) = b := e3
    repeat' (first
      | refine GZp_i_2i_y ?_ ?_ ?_ ?_ ?_ ?_ ?_ ?_
      | with_reducible first | exact BzZq.mk | refine Tw.ret ?_ | refine ImZq.i fun h => ?_ | refine IkZq.i fun hk => ?_)
    rw [e3b]
    repeat' (first
      | ((with_reducible refine TOps.any ?_); refine TOps.callV env (by rfl) (by rfl) (by rfl) (qc) ?_)
      | refine GZp_i_2i_y ?_ ?_ ?_ ?_ ?_ ?_ ?_ ?_
      | with_reducible first | exact BzZq.mk | refine Tw.ret ?_ | refine ImZq.i fun h => ?_ | refine IkZq.i fun hk => ?_)
    refine Tw.weaken (TWk.re (H' := [some (.cells [.int .u8 0, .int .u8 0, .int .u8 0, .int .u8 0, .int .u8 0, .int .u8 0, .int .u8 0, .int .u8 0]), some (.arr Ey (ptab 8 0 fun i => l.getD i 0))]) (by rfl)) ?_
    refine Tw.loopK [4, 6, 27, 28] (fun i : Nat => i ≤ l.length) (fun i => l.length - i) (fun i => [(29, .int .i64 i)]) (fun i => [some (.cells [.int .u8 0, .int .u8 0, .int .u8 0, .int .u8 0, .int .u8 0, .int .u8 0, .int .u8 0, .int .u8 0]), some (.arr Ey (ptab 8 i fun i => l.getD i 0))]) ⟨0, by omega, TWk.fcanon env [some 0, some 1] (by rfl) ?_⟩ (fun i hi => ?_)
    · repeat' (first
        | with_reducible first | exact Conj.nil | refine Conj.cons rfl ?_ | refine Conj.same ?_ | refine Conj.ask ?_ ?_
        | ((with_reducible refine Due.mk ?_); (first | with_reducible rfl | omega | assumption | decide | ((try simp only [goS] at *) <;> (try intro h) <;> (try intro h') <;> (try simp only [goS] at *) <;> (try simp only [rdi, rd2i, rdy, Int.toNat_natCast, Nat.add_zero] at *) <;> (try simp only [rng]) <;> (first | assumption | omega)) | (exact due_app0 (by omega)) | (exact due_app (by omega)) | (intros; simp; done) | (intros; simp; omega)))
        | with_reducible refine Due.mk ?_
        | omega)
    have pl : (ptab 8 i fun i => l.getD i 0).length = 8 := ptab_len
    rcases Nat.lt_or_ge i l.length with hi2 | hi2
    · have vb := l0 i
      have em : l.getD i 0 % 256 = l.getD i 0 := Int.emod_eq_of_lt vb.1 (by omega)
      have ps : (ptab 8 i fun i => l.getD i 0).set i (l.getD i 0 % 256) = ptab 8 (i + 1) fun i => l.getD i 0 := by rw [em]; exact ptab_set (f := fun i => l.getD i 0)
      repeat' (first
        | refine GZy_i_2i_y pl ?_ ?_ ?_ ?_ ?_ ?_ ?_ ?_
        | with_reducible first | exact BzZq.mk | refine Tw.ret ?_ | refine ImZq.i fun h => ?_ | refine IkZq.i fun hk => ?_)
      refine ⟨i + 1, by omega, by omega, TWk.fcanon env [some 0, some 1] (by rfl) ?_⟩
      repeat' (first
        | exact ps.symm
        | with_reducible first | exact Conj.nil | refine Conj.cons rfl ?_ | refine Conj.same ?_ | refine Conj.ask ?_ ?_
        | ((with_reducible refine Due.mk ?_); (first | with_reducible rfl | omega | assumption | decide | ((try simp only [goS] at *) <;> (try intro h) <;> (try intro h') <;> (try simp only [goS] at *) <;> (try simp only [rdi, rd2i, rdy, Int.toNat_natCast, Nat.add_zero] at *) <;> (try simp only [rng]) <;> (first | assumption | omega)) | (exact due_app0 (by omega)) | (exact due_app (by omega)) | (intros; simp; done) | (intros; simp; omega)))
        | with_reducible refine Due.mk ?_
        | omega)
    obtain rfl : i = l.length := by omega
    rw [e8]
    refine Tw.weaken (TWk.re (H' := [some (.cells [.int .u8 0, .int .u8 0, .int .u8 0, .int .u8 0, .int .u8 0, .int .u8 0, .int .u8 0, .int .u8 0]), some (.cells (inkA l))]) (by rfl)) ?_
    repeat' (first
      | refine GZp_i_2i_y ?_ ?_ ?_ ?_ ?_ ?_ ?_ ?_
      | with_reducible first | exact BzZq.mk | refine Tw.ret ?_ | refine ImZq.i fun h => ?_ | refine IkZq.i fun hk => ?_)
    exact ⟨rfl, rfl, rfl⟩
  · have e3 : (-1 : Int) = b := by rw [hb]; unfold blk; rw [if_neg h4]
    repeat' (first
      | refine GZp_i_2i_y ?_ ?_ ?_ ?_ ?_ ?_ ?_ ?_
      | with_reducible first | exact BzZq.mk | refine Tw.ret ?_ | refine ImZq.i fun h => ?_ | refine IkZq.i fun hk => ?_)
    rw [e3]
    repeat' (first
      | ((with_reducible refine TOps.any ?_); refine TOps.callV env (by rfl) (by rfl) (by rfl) (qc) ?_)
      | refine GZp_i_2i_y ?_ ?_ ?_ ?_ ?_ ?_ ?_ ?_
      | with_reducible first | exact BzZq.mk | refine Tw.ret ?_ | refine ImZq.i fun h => ?_ | refine IkZq.i fun hk => ?_)
    refine Tw.weaken (TWk.re (H' := [some (.cells [.int .u8 0, .int .u8 0, .int .u8 0, .int .u8 0, .int .u8 0, .int .u8 0, .int .u8 0, .int .u8 0]), some (.arr Ey (ptab 8 0 fun i => l.getD i 0))]) (by rfl)) ?_
    refine Tw.loopK [4, 6, 27, 28] (fun i : Nat => i ≤ l.length) (fun i => l.length - i) (fun i => [(29, .int .i64 i)]) (fun i => [some (.cells [.int .u8 0, .int .u8 0, .int .u8 0, .int .u8 0, .int .u8 0, .int .u8 0, .int .u8 0, .int .u8 0]), some (.arr Ey (ptab 8 i fun i => l.getD i 0))]) ⟨0, by omega, TWk.fcanon env [some 0, some 1] (by rfl) ?_⟩ (fun i hi => ?_)
    · repeat' (first
        | with_reducible first | exact Conj.nil | refine Conj.cons rfl ?_ | refine Conj.same ?_ | refine Conj.ask ?_ ?_
        | ((with_reducible refine Due.mk ?_); (first | with_reducible rfl | omega | assumption | decide | ((try simp only [goS] at *) <;> (try intro h) <;> (try intro h') <;> (try simp only [goS] at *) <;> (try simp only [rdi, rd2i, rdy, Int.toNat_natCast, Nat.add_zero] at *) <;> (try simp only [rng]) <;> (first | assumption | omega)) | (exact due_app0 (by omega)) | (exact due_app (by omega)) | (intros; simp; done) | (intros; simp; omega)))
        | with_reducible refine Due.mk ?_
        | omega)
    have pl : (ptab 8 i fun i => l.getD i 0).length = 8 := ptab_len
    rcases Nat.lt_or_ge i l.length with hi2 | hi2
    · have vb := l0 i
      have em : l.getD i 0 % 256 = l.getD i 0 := Int.emod_eq_of_lt vb.1 (by omega)
      have ps : (ptab 8 i fun i => l.getD i 0).set i (l.getD i 0 % 256) = ptab 8 (i + 1) fun i => l.getD i 0 := by rw [em]; exact ptab_set (f := fun i => l.getD i 0)
      repeat' (first
        | refine GZy_i_2i_y pl ?_ ?_ ?_ ?_ ?_ ?_ ?_ ?_
        | with_reducible first | exact BzZq.mk | refine Tw.ret ?_ | refine ImZq.i fun h => ?_ | refine IkZq.i fun hk => ?_)
      refine ⟨i + 1, by omega, by omega, TWk.fcanon env [some 0, some 1] (by rfl) ?_⟩
      repeat' (first
        | exact ps.symm
        | with_reducible first | exact Conj.nil | refine Conj.cons rfl ?_ | refine Conj.same ?_ | refine Conj.ask ?_ ?_
        | ((with_reducible refine Due.mk ?_); (first | with_reducible rfl | omega | assumption | decide | ((try simp only [goS] at *) <;> (try intro h) <;> (try intro h') <;> (try simp only [goS] at *) <;> (try simp only [rdi, rd2i, rdy, Int.toNat_natCast, Nat.add_zero] at *) <;> (try simp only [rng]) <;> (first | assumption | omega)) | (exact due_app0 (by omega)) | (exact due_app (by omega)) | (intros; simp; done) | (intros; simp; omega)))
        | with_reducible refine Due.mk ?_
        | omega)
    obtain rfl : i = l.length := by omega
    rw [e8]
    refine Tw.weaken (TWk.re (H' := [some (.cells [.int .u8 0, .int .u8 0, .int .u8 0, .int .u8 0, .int .u8 0, .int .u8 0, .int .u8 0, .int .u8 0]), some (.cells (inkA l))]) (by rfl)) ?_
    repeat' (first
      | refine GZp_i_2i_y ?_ ?_ ?_ ?_ ?_ ?_ ?_ ?_
      | with_reducible first | exact BzZq.mk | refine Tw.ret ?_ | refine ImZq.i fun h => ?_ | refine IkZq.i fun hk => ?_)
    exact ⟨rfl, rfl, rfl⟩
end Go.Proofs.Ytogbkhopanaoiaa
