/- Conditions: a named ink. -/
import Derived.Test.YtogbkhopanaoiaaCnd7
import Derived.Test.YtogbkhopanaoiaaGo
namespace Go.Proofs.Ytogbkhopanaoiaa
open Go Go.Lite
set_option linter.unusedVariables false
set_option linter.unusedSimpArgs false
set_option maxRecDepth 100000
set_option maxHeartbeats 4000000
-- @simp rdi rd2i rdy

theorem quick_255 {s : Sp} {x : Int} (h : spEs s = 0) (hx : 0 ≤ x ∧ x ≤ 255) (o : Nat) : 0 ≤ (quickS s x).getD o 0 ∧ (quickS s x).getD o 0 ≤ 255 := by
  obtain ⟨g1, g2, g3, g4, g5, g6⟩ := spE_ok.1 h
  have g7 := (tonesE_ok.1 g6).2
  have v := check_ok g4
  have hr := raw_bd v (x := 256 * x) (by omega)
  have hm := v.rg (s.2.2.2.2.2.2.2.1.length - 1) (by have := v.len; omega)
  rcases Nat.lt_or_ge o (quickS s x).length with ho | ho
  · have ho' : o < s.2.2.2.2.2.2.2.2.length := by simpa [quickS] using ho
    have hv := g7 o ho'
    have hb : 0 ≤ s.2.2.2.2.2.2.2.2.getD o 0 * raw s.2.2.2.2.2.2.2.1 (256 * x) ∧ s.2.2.2.2.2.2.2.2.getD o 0 * raw s.2.2.2.2.2.2.2.1 (256 * x) ≤ 255 * 65280 := ⟨Int.mul_nonneg (by omega) (by omega), Int.mul_le_mul (by omega) (by omega) (by omega) (by omega)⟩
    have : (quickS s x).getD o 0 = qk s x (s.2.2.2.2.2.2.2.2.getD o 0) := by rw [getD_get 0 ho, getD_get 0 ho']; simp [quickS]
    rw [this, qk]
    exact near_bd (by omega) hb.1 hb.2
  · rw [List.getD_eq_getElem?_getD, List.getElem?_eq_none ho]; simp
/-- Where a name stands among the inks. -/
def at0 (l : List ByteArray) (n : ByteArray) : Nat := l.findIdx fun s => decide (s = n)
theorem at0_le (l : List ByteArray) (n : ByteArray) : at0 l n ≤ l.length := List.findIdx_le_length
theorem at0_lt {l : List ByteArray} {n : ByteArray} {i : Nat} (hi : i < at0 l n) : l.getD i dB ≠ n := by
  have h := List.not_of_lt_findIdx (p := fun s => decide (s = n)) hi
  have hl := at0_le l n
  rw [getD_get dB (by unfold at0 at hl hi; omega)]; simpa using h
theorem at0_at {l : List ByteArray} {n : ByteArray} (h : at0 l n < l.length) : l.getD (at0 l n) dB = n := by
  unfold at0 at h ⊢
  have := List.findIdx_getElem (w := h)
  rw [getD_get dB h]; simpa using this
def oneTo (n i : Nat) (x : Int) : List Int := (List.replicate n 0).set i x
theorem oneTo_ok {n i : Nat} {x : Int} (hx : 0 ≤ x ∧ x ≤ 255) : inTone (oneTo n i x) := fun k hk => by
  unfold oneTo at hk ⊢
  by_cases e : i = k
  · subst e; rw [getD_set_eq (by simpa using hk)]; exact hx
  · rw [getD_set_ne e]
    simp only [List.length_set, List.length_replicate] at hk
    rw [getD_repl hk]; omega
/-- The tones that stand for a named ink, if there is one. -/
noncomputable def spotT (c : Cnd) (nm : ByteArray) (x : Int) : Option (List Int) :=
  if at0 c.inks nm < c.inks.length then some (oneTo c.inks.length (at0 c.inks nm) x)
  else if at1 c.sp nm < c.sp.length then some (plcN c (quickS (c.sp.getD (at1 c.sp nm) dS) x) 4) else none
noncomputable def spotR (c : Cnd) (nm : ByteArray) (x : Int) : List Int := match spotT c nm x with
  | some t => quickL t (blk c) c.tot
  | none => []
noncomputable def spotE (c : Cnd) (nm : ByteArray) (x : Int) : Int := match spotT c nm x with
  | some t => 0
  | none => 6
theorem at1_lt {l : List Sp} {n : ByteArray} {i : Nat} (hi : i < at1 l n) : (l.getD i dS).1 ≠ n := by
  have h := List.not_of_lt_findIdx (p := fun s : Sp => decide (s.1 = n)) hi
  have hl := at1_le l n
  rw [getD_get dS (by unfold at1 at hl hi; omega)]; simpa using h
theorem spot_y (c : Cnd) (nm : ByteArray) (x : Nat) (w : CndW c) (ok : CndOk c) (h0 : cndE c = 0) (hx : x ≤ 255) :
    TC R Try.prog condition_Spot_f [.agg (encC c), .str nm, .int .u8 x] [] (fun v X => v = .tup [.agg (inkA (spotR c nm x)), .int .i64 (spotE c nm x)] ∧ X = []) := by
  have cc := condCheck_c c w
  rw [h0] at cc
  have hn := ok.n
  have al := at0_le c.inks nm
  have bl := at1_le c.sp nm
  have wl := w.sp
  refine tc0 env condition_Spot_s (by rfl) ?_
  dsimp only [condition_Spot_c, encC]
  repeat' (first
    | ((with_reducible refine TOps.any ?_); refine TOps.callV env (by rfl) (by rfl) (by rfl) (cc) ?_)
    | refine GZp_i_2i_y ?_ ?_ ?_ ?_ ?_ ?_ ?_ ?_
    | with_reducible first | exact BzZq.mk | refine Tw.ret ?_ | refine ImZq.i fun h => ?_ | refine IkZq.i fun hk => ?_)
  refine Tw.loopK [1, 2, 3, 6, 20, 21] (fun i : Nat => i ≤ at0 c.inks nm) (fun i => c.inks.length - i) (fun i => [(22, .int .i64 i)])
    (fun i => [some (.cells [.lst Es c.inks, .lst Ei c.pr, .lst Ei c.li, .int .i64 c.ga, .int .i64 c.gb, .int .i64 c.gc, .lst Ei c.gv, .int .i64 c.ra, .int .i64 c.rb, .int .i64 c.rc, .lst Ei c.rv, .lst Es6iL2iJLiJ c.sp, .int .i64 c.tot]), some (.cells [.int .u8 0, .int .u8 0, .int .u8 0, .int .u8 0, .int .u8 0, .int .u8 0, .int .u8 0, .int .u8 0])])
    ⟨0, by omega, TWk.fcanon env [some 0, some 1] (by rfl) ?_⟩ (fun i hi => ?_)
  · repeat' (first
      | with_reducible first | exact Conj.nil | refine Conj.cons rfl ?_ | refine Conj.same ?_ | refine Conj.ask ?_ ?_
      | ((with_reducible refine Due.mk ?_); (first | with_reducible rfl | omega | assumption | decide | ((try simp only [goS] at *) <;> (try intro h) <;> (try intro h') <;> (try simp only [goS] at *) <;> (try simp only [rdi, rd2i, rdy, Int.toNat_natCast, Nat.add_zero] at *) <;> (try simp only [rng]) <;> (first | assumption | omega)) | (exact due_app0 (by omega)) | (exact due_app (by omega)) | (intros; simp; done) | (intros; simp; omega)))
      | with_reducible refine Due.mk ?_
      | omega)
  rcases Nat.lt_or_ge i c.inks.length with hi2 | hi2
  · by_cases he : i = at0 c.inks nm
    · have en : c.inks.getD i (R.d Es) = nm := by rw [he]; exact at0_at (by omega)
      have et : spotT c nm x = some (oneTo c.inks.length i x) := by unfold spotT; rw [if_pos (by omega), he]
      have lc := limited_c c (oneTo c.inks.length i x) ok (oneTo_ok (by omega)) (by simp [oneTo])
      have eR : spotR c nm x = quickL (oneTo c.inks.length i x) (blk c) c.tot := by unfold spotR; rw [et]
      have eE : spotE c nm x = 0 := by unfold spotE; rw [et]
      rw [eR, eE]
      have lo : (oneTo c.inks.length i x).length = c.inks.length := by simp [oneTo]
      have e0 : (List.replicate c.inks.length (0 : Int)).set i (x : Int) = oneTo c.inks.length i x := rfl
      obtain ⟨q, hq⟩ : ∃ q, q = quickL (oneTo c.inks.length i x) (blk c) c.tot := ⟨_, rfl⟩
      rw [← hq] at lc ⊢
      have lo2 : 0 + c.inks.length ≤ (oneTo c.inks.length i x).length := by omega
      obtain ⟨T, hT⟩ : ∃ T, T = oneTo c.inks.length i x := ⟨_, rfl⟩
      rw [← hT] at lc e0 lo lo2
      repeat' (first
        | refine GZp_i_2i_y ?_ ?_ ?_ ?_ ?_ ?_ ?_ ?_
        | with_reducible first | exact BzZq.mk | refine Tw.ret ?_ | refine ImZq.i fun h => ?_ | refine IkZq.i fun hk => ?_)
      refine TOps.frz env 2 (e := Ei) (xs := T) (by rfl) (congrArg (fun z => some (TRow.arr Ei z)) e0) (by rfl) ?_ ?_ ?_
      · repeat' (first
          | exact lo2
          | with_reducible first | exact Conj.nil | refine Conj.cons rfl ?_ | refine Conj.same ?_ | refine Conj.ask ?_ ?_
          | ((with_reducible refine Due.mk ?_); (first | with_reducible rfl | omega | assumption | decide | ((try simp only [goS] at *) <;> (try intro h) <;> (try intro h') <;> (try simp only [goS] at *) <;> (try simp only [rdi, rd2i, rdy, Int.toNat_natCast, Nat.add_zero] at *) <;> (try simp only [rng]) <;> (first | assumption | omega)) | (exact due_app0 (by omega)) | (exact due_app (by omega)) | (intros; simp; done) | (intros; simp; omega)))
          | with_reducible refine Due.mk ?_
          | omega)
      · repeat' (first
          | exact lo2
          | with_reducible first | exact Conj.nil | refine Conj.cons rfl ?_ | refine Conj.same ?_ | refine Conj.ask ?_ ?_
          | ((with_reducible refine Due.mk ?_); (first | with_reducible rfl | omega | assumption | decide | ((try simp only [goS] at *) <;> (try intro h) <;> (try intro h') <;> (try simp only [goS] at *) <;> (try simp only [rdi, rd2i, rdy, Int.toNat_natCast, Nat.add_zero] at *) <;> (try simp only [rng]) <;> (first | assumption | omega)) | (exact due_app0 (by omega)) | (exact due_app (by omega)) | (intros; simp; done) | (intros; simp; omega)))
          | with_reducible refine Due.mk ?_
          | omega)
      rw [cut_all (show ((c.inks.length : Nat) : Int).toNat = T.length by rw [Int.toNat_natCast]; exact lo.symm)]
      repeat' (first
        | ((with_reducible refine TOps.any ?_); refine TOps.callE env (by rfl) (by rfl) (by rfl) ?_ (lc) (by rfl) ?_)
        | refine GZp_i_2i_y ?_ ?_ ?_ ?_ ?_ ?_ ?_ ?_
        | with_reducible first | exact BzZq.mk | refine Tw.ret ?_ | refine ImZq.i fun h => ?_ | refine IkZq.i fun hk => ?_)
      exact ⟨rfl, rfl, rfl⟩
    · have en : c.inks.getD i (R.d Es) ≠ nm := at0_lt (by omega)
      repeat' (first
        | refine GZp_i_2i_y ?_ ?_ ?_ ?_ ?_ ?_ ?_ ?_
        | with_reducible first | exact BzZq.mk | refine Tw.ret ?_ | refine ImZq.i fun h => ?_ | refine IkZq.i fun hk => ?_)
      refine ⟨i + 1, by omega, by omega, TWk.fcanon env [some 0, some 1] (by rfl) ?_⟩
      repeat' (first
        | with_reducible first | exact Conj.nil | refine Conj.cons rfl ?_ | refine Conj.same ?_ | refine Conj.ask ?_ ?_
        | ((with_reducible refine Due.mk ?_); (first | with_reducible rfl | omega | assumption | decide | ((try simp only [goS] at *) <;> (try intro h) <;> (try intro h') <;> (try simp only [goS] at *) <;> (try simp only [rdi, rd2i, rdy, Int.toNat_natCast, Nat.add_zero] at *) <;> (try simp only [rng]) <;> (first | assumption | omega)) | (exact due_app0 (by omega)) | (exact due_app (by omega)) | (intros; simp; done) | (intros; simp; omega)))
        | with_reducible refine Due.mk ?_
        | omega)
  have ei : at0 c.inks nm = c.inks.length := by omega
  obtain rfl : i = c.inks.length := by omega
  repeat' (first
    | refine GZp_i_2i_y ?_ ?_ ?_ ?_ ?_ ?_ ?_ ?_
    | with_reducible first | exact BzZq.mk | refine Tw.ret ?_ | refine ImZq.i fun h => ?_ | refine IkZq.i fun hk => ?_)
  refine Tw.loopK [1, 2, 3, 6, 44] (fun i : Nat => i ≤ at1 c.sp nm) (fun i => c.sp.length - i) (fun i => [(45, .int .i64 i)])
    (fun i => [some (.cells [.lst Es c.inks, .lst Ei c.pr, .lst Ei c.li, .int .i64 c.ga, .int .i64 c.gb, .int .i64 c.gc, .lst Ei c.gv, .int .i64 c.ra, .int .i64 c.rb, .int .i64 c.rc, .lst Ei c.rv, .lst Es6iL2iJLiJ c.sp, .int .i64 c.tot]), some (.cells [.int .u8 0, .int .u8 0, .int .u8 0, .int .u8 0, .int .u8 0, .int .u8 0, .int .u8 0, .int .u8 0])])
    ⟨0, by omega, TWk.fcanon env [some 0, some 1] (by rfl) ?_⟩ (fun k hk => ?_)
  · repeat' (first
      | with_reducible first | exact Conj.nil | refine Conj.cons rfl ?_ | refine Conj.same ?_ | refine Conj.ask ?_ ?_
      | ((with_reducible refine Due.mk ?_); (first | with_reducible rfl | omega | assumption | decide | ((try simp only [goS] at *) <;> (try intro h) <;> (try intro h') <;> (try simp only [goS] at *) <;> (try simp only [rdi, rd2i, rdy, Int.toNat_natCast, Nat.add_zero] at *) <;> (try simp only [rng]) <;> (first | assumption | omega)) | (exact due_app0 (by omega)) | (exact due_app (by omega)) | (intros; simp; done) | (intros; simp; omega)))
      | with_reducible refine Due.mk ?_
      | omega)
  rcases Nat.lt_or_ge k c.sp.length with hk2 | hk2
  · by_cases he : k = at1 c.sp nm
    · have f1 := (at1_found (l := c.sp) (n := nm) (by omega)).1
      have en : (c.sp.getD k (R.d Es6iL2iJLiJ)).1 = nm := by rw [he]; exact f1
      have s4 := ok.sp4 k hk2
      have s0 := (ok.sp.2 k hk2).1
      have qc := spQuick_c (c.sp.getD k dS) x s0 (by unfold Due; omega)
      have pc := placed_c c (quickS (c.sp.getD k dS) x) ok s4.2 (by unfold quickS; rw [List.length_map]; exact s4.1) (fun o => quick_255 s0 (by omega) o)
      have et : spotT c nm x = some (plcN c (quickS (c.sp.getD k dS) x) 4) := by unfold spotT; rw [if_neg (by omega), if_pos (by omega), he]
      have eR : spotR c nm x = quickL (plcN c (quickS (c.sp.getD k dS) x) 4) (blk c) c.tot := by unfold spotR; rw [et]
      have eE : spotE c nm x = 0 := by unfold spotE; rw [et]
      rw [eR, eE]
      obtain ⟨q, hq⟩ : ∃ q, q = quickL (plcN c (quickS (c.sp.getD k dS) x) 4) (blk c) c.tot := ⟨_, rfl⟩
      rw [← hq] at pc ⊢
      repeat' (first
        | ((with_reducible refine TOps.any ?_); refine TOps.callV env (by rfl) (by rfl) (by rfl) (qc) ?_)
        | ((with_reducible refine TOps.any ?_); refine TOps.callE env (by rfl) (by rfl) (by rfl) ?_ (qc) (by rfl) ?_)
        | ((with_reducible refine TOps.any ?_); refine TOps.callE env (by rfl) (by rfl) (by rfl) ?_ (pc) (by rfl) ?_)
        | refine GZp_i_2i_y ?_ ?_ ?_ ?_ ?_ ?_ ?_ ?_
        | with_reducible first | exact BzZq.mk | refine Tw.ret ?_ | refine ImZq.i fun h => ?_ | refine IkZq.i fun hk => ?_)
      exact ⟨rfl, rfl, rfl⟩
    · have en : (c.sp.getD k (R.d Es6iL2iJLiJ)).1 ≠ nm := at1_lt (by omega)
      repeat' (first
        | refine GZp_i_2i_y ?_ ?_ ?_ ?_ ?_ ?_ ?_ ?_
        | with_reducible first | exact BzZq.mk | refine Tw.ret ?_ | refine ImZq.i fun h => ?_ | refine IkZq.i fun hk => ?_)
      refine ⟨k + 1, by omega, by omega, TWk.fcanon env [some 0, some 1] (by rfl) ?_⟩
      repeat' (first
        | with_reducible first | exact Conj.nil | refine Conj.cons rfl ?_ | refine Conj.same ?_ | refine Conj.ask ?_ ?_
        | ((with_reducible refine Due.mk ?_); (first | with_reducible rfl | omega | assumption | decide | ((try simp only [goS] at *) <;> (try intro h) <;> (try intro h') <;> (try simp only [goS] at *) <;> (try simp only [rdi, rd2i, rdy, Int.toNat_natCast, Nat.add_zero] at *) <;> (try simp only [rng]) <;> (first | assumption | omega)) | (exact due_app0 (by omega)) | (exact due_app (by omega)) | (intros; simp; done) | (intros; simp; omega)))
        | with_reducible refine Due.mk ?_
        | omega)
  · have et : spotT c nm x = none := by unfold spotT; rw [if_neg (by omega), if_neg (by omega)]
    have eR : spotR c nm x = [] := by unfold spotR; rw [et]
    have eE : spotE c nm x = 6 := by unfold spotE; rw [et]
    rw [eR, eE]
    repeat' (first
      | refine GZp_i_2i_y ?_ ?_ ?_ ?_ ?_ ?_ ?_ ?_
      | with_reducible first | exact BzZq.mk | refine Tw.ret ?_ | refine ImZq.i fun h => ?_ | refine IkZq.i fun hk => ?_)
    exact ⟨rfl, rfl, rfl⟩
end Go.Proofs.Ytogbkhopanaoiaa
