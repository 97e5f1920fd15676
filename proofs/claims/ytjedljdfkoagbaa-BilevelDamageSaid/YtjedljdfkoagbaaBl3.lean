/- Compressed bitmaps: the rows are handed to the encoder. -/
import Derived.Test.YtjedljdfkoagbaaBl2
import Derived.Test.YtjedljdfkoagbaaGo
namespace Go.Proofs.Ytjedljdfkoagbaa
open Go Go.Lite
set_option linter.unusedVariables false
set_option linter.unusedSimpArgs false
set_option maxRecDepth 100000
set_option maxHeartbeats 4000000
-- @simp rdi rdy

/-- The rows of pass. -/
def paR (g : Bool) (w k : Nat) (d : List Int) (s : ES) (kk : Nat) : TH A :=
  match g with
  | true => [some (.cells [.int .i64 w, .int .i64 k, .lst Ey d]), some (.cells [.int .i64 0]), some (.cells [.ptr 3 0]), some (.cells [.sla 2 4 0 s.cs.length, .int .u32 s.w, .int .i64 kk, .int .u32 (low s.V), .sla 1 5 0 s.n, .bool false]), some (.arr E2w s.cs), some (.arr Ey (top s.n s.V))]
  | false => [some (.cells [.int .i64 w, .int .i64 k, .lst Ey d]), some (.cells [.int .i64 0]), some (.cells [.ptr 3 0]), some (.cells [.sla 2 4 0 s.cs.length, .int .u32 s.w, .int .i64 kk, .int .u32 (low s.V), .sla 1 6 0 s.n, .bool false]), some (.arr E2w s.cs), none, some (.arr Ey (top s.n s.V))]
def zN (s : ES) : Bool := decide (s.n = 0)
theorem zN_step {s : ES} {i t : Nat} : zN (estep s i t) = (zN s && !emits s i t) := by
  unfold zN emits estep
  by_cases h : pW s.cs s.w i t < 16777216
  · rw [if_pos h, decide_eq_true h]; simp
  · rw [if_neg h, decide_eq_false h]; simp
theorem passE (w k : Nat) (f : Nat → Nat → Bool) (hw : 1 ≤ w ∧ w ≤ 1024) (hk : 1 ≤ k ∧ k ≤ 64) (L : List (Nat × Nat)) (hL : L = evs w k f (sameR w f) k) :
    TC R Try.prog bilevel_pass_f [.ptr 0 0, .fn bilevel_packed_1_f [.ptr 1 0, .ptr 2 0], .bool false] (paR true w k (bm w k f) (eRun 2049 (ctx L) (bitA L) 0) 0)
      (fun v X => v = .tup [] ∧ X = paR (zN (eRun 2049 (ctx L) (bitA L) L.length)) w k (bm w k f) (eRun 2049 (ctx L) (bitA L) L.length) L.length) := by
  have ok := bm_ok (f := f) hw (show 1 ≤ k ∧ k ≤ 1024 by omega)
  have lb : L.length ≤ 65600 := by
    have h1 := evs_le (w := w) (h := k) (f := f) (sm := sameR w f) (y := k)
    have h2 : k * (w + 1) ≤ 64 * 1025 := Nat.mul_le_mul (by omega) (by omega)
    rw [hL]; omega
  have al : ∀ j, j < L.length → ctx L j < 2049 ∧ bitA L j ≤ 1 := fun j hj => by rw [hL] at hj ⊢; exact evs_all hj
  have es : ∀ j, eRun 2049 (ctx L) (bitA L) (j + 1) = estep (eRun 2049 (ctx L) (bitA L) j) (ctx L j) (bitA L j) := fun j => rfl
  have eo : ∀ j, j ≤ L.length → ESOk 2049 j (eRun 2049 (ctx L) (bitA L) j) := fun j hj => eRun_ok fun i hi => al i (by omega)
  generalize hE : eRun 2049 (ctx L) (bitA L) = E at *
  have q1 : quo ((w : Int) + 7) 8 = (st w : Int) := by rw [quo_nn (by omega)]; unfold st; omega
  have sb : 1 ≤ st w ∧ st w ≤ 128 := by unfold st; omega
  refine tc env bilevel_pass_s (by rfl) ?_
  dsimp only [bilevel_pass_c, paR]
  repeat' (first
    | refine GZy_i_y q1 ?_ ?_ ?_ ?_ ?_ ?_ ?_ ?_
    | with_reducible first | exact BzZq.mk | refine Tw.ret ?_ | refine ImZq.i fun h => ?_ | refine IkZq.i fun hk => ?_)
  rw [q1, Int.toNat_natCast]
  refine Tw.frz env 6 (by rfl) (by rfl) (by rfl) ?_ ?_ ?_
  · repeat' (first
      | with_reducible first | exact Conj.nil | refine Conj.cons rfl ?_ | refine Conj.same ?_ | refine Conj.ask ?_ ?_
      | ((with_reducible refine Due.mk ?_); (first | with_reducible rfl | omega | assumption | decide | ((try simp only [goS] at *) <;> (try intro h) <;> (try intro h') <;> (try simp only [goS] at *) <;> (try simp only [rdi, rdy, Int.toNat_natCast, Nat.add_zero] at *) <;> (try simp only [rng]) <;> (first | assumption | omega)) | (exact due_app0 (by omega)) | (exact due_app (by omega)) | (intros; simp; done) | (intros; simp; omega)))
      | with_reducible refine Due.mk ?_
      | omega)
  · repeat' (first
      | with_reducible first | exact Conj.nil | refine Conj.cons rfl ?_ | refine Conj.same ?_ | refine Conj.ask ?_ ?_
      | ((with_reducible refine Due.mk ?_); (first | with_reducible rfl | omega | assumption | decide | ((try simp only [goS] at *) <;> (try intro h) <;> (try intro h') <;> (try simp only [goS] at *) <;> (try simp only [rdi, rdy, Int.toNat_natCast, Nat.add_zero] at *) <;> (try simp only [rng]) <;> (first | assumption | omega)) | (exact due_app0 (by omega)) | (exact due_app (by omega)) | (intros; simp; done) | (intros; simp; omega)))
      | with_reducible refine Due.mk ?_
      | omega)
  rw [cut_all List.length_replicate.symm]
  refine Tw.loopK [0, 1, 2, 6, 24] (fun i : Nat × Bool => i.1 ≤ k ∧ i.2 = zN (E (evs w k f (sameR w f) i.1).length)) (fun i => k - i.1) (fun i => [(25, .int .i64 i.1), (7, .lst Ey (rowB w (abv f i.1)))])
    (fun i => match i.2 with
      | true => [some (.cells [.int .i64 w, .int .i64 k, .lst Ey (bm w k f)]), some (.cells [.int .i64 0]), some (.cells [.ptr 3 0]), some (.cells [.sla 2 4 0 (E (evs w k f (sameR w f) i.1).length).cs.length, .int .u32 (E (evs w k f (sameR w f) i.1).length).w, .int .i64 (evs w k f (sameR w f) i.1).length, .int .u32 (low (E (evs w k f (sameR w f) i.1).length).V), .sla 1 5 0 (E (evs w k f (sameR w f) i.1).length).n, .bool false]), some (.arr E2w (E (evs w k f (sameR w f) i.1).length).cs), some (.arr Ey (top (E (evs w k f (sameR w f) i.1).length).n (E (evs w k f (sameR w f) i.1).length).V))]
      | false => [some (.cells [.int .i64 w, .int .i64 k, .lst Ey (bm w k f)]), some (.cells [.int .i64 0]), some (.cells [.ptr 3 0]), some (.cells [.sla 2 4 0 (E (evs w k f (sameR w f) i.1).length).cs.length, .int .u32 (E (evs w k f (sameR w f) i.1).length).w, .int .i64 (evs w k f (sameR w f) i.1).length, .int .u32 (low (E (evs w k f (sameR w f) i.1).length).V), .sla 1 6 0 (E (evs w k f (sameR w f) i.1).length).n, .bool false]), some (.arr E2w (E (evs w k f (sameR w f) i.1).length).cs), none, some (.arr Ey (top (E (evs w k f (sameR w f) i.1).length).n (E (evs w k f (sameR w f) i.1).length).V))])
    ⟨(0, true), ⟨by simp, by rw [← hE]; rfl⟩, TWk.fcanon env [some 0, some 1, some 2, some 3, some 4, some 5] (by rfl) ?_⟩ (fun i hi => ?_)
  · refine ⟨rfl, rowB_zero, ?_⟩
    repeat' (first | exact trivial | refine ⟨rfl, ?_⟩)
  obtain ⟨y, g⟩ := i
  obtain ⟨hy, hg⟩ := hi
  simp only at hy hg
  obtain ⟨j, hj⟩ : ∃ j, j = (evs w k f (sameR w f) y).length := ⟨_, rfl⟩
  rw [← hj] at hg
  have rb : ∀ g : Nat → Bool, ∀ i, i < (rowB w g).length → 0 ≤ (rowB w g).getD i 0 ∧ (rowB w g).getD i 0 ≤ 255 := fun g i hi => rowB_bd hi
  rcases Nat.lt_or_ge y k with hy2 | hy2
  · have be := bequal_c (rowB w fun x => f x y) (rowB w (abv f y)) (rb _) (rb _)
    have ej : L.getD j (0, 0) = (2048, (sameR w f y).toNat) := by rw [hL, hj]; exact evs_same hy2
    have so := eo j (by
      rw [hL, hj]
      obtain ⟨M, hM⟩ := evs_mono (w := w) (h := k) (f := f) (sm := sameR w f) (show y ≤ k by omega)
      rw [hM, List.length_append]; omega)
    have ye : (y : Int) * (st w : Int) = ((y * st w : Nat) : Int) := by simp
    have yf : ((y : Int) + 1) * (st w : Int) = ((y * st w + st w : Nat) : Int) := by rw [show (y : Int) + 1 = ((y + 1 : Nat) : Int) by omega, ← Int.natCast_mul, Nat.add_mul, Nat.one_mul]
    have yb : y * st w + st w ≤ k * st w := by
      have := Nat.mul_le_mul_right (st w) (show y + 1 ≤ k by omega)
      rw [Nat.add_mul, Nat.one_mul] at this; exact this
    have kb : k * st w ≤ 64 * 128 := Nat.mul_le_mul (by omega) (by omega)
    have bl : (bm w k f).length = k * st w := by rw [bm_len, Nat.mul_comm]
    have d1 : -9223372036854775808 ≤ (y : Int) * (st w : Int) ∧ (y : Int) * (st w : Int) ≤ 9223372036854775807 := by omega
    have d2 : -9223372036854775808 ≤ ((y : Int) + 1) * (st w : Int) ∧ ((y : Int) + 1) * (st w : Int) ≤ 9223372036854775807 := by omega
    have d3 : 0 ≤ (y : Int) * (st w : Int) ∧ (y : Int) * (st w : Int) ≤ ((y : Int) + 1) * (st w : Int) ∧ ((y : Int) + 1) * (st w : Int) ≤ ((bm w k f).length : Int) := by rw [bl]; omega
    have eR : List.take ((((y : Int) + 1) * (st w : Int)).toNat - ((y : Int) * (st w : Int)).toNat) (List.drop ((y : Int) * (st w : Int)).toNat (bm w k f)) = rowB w fun x => f x y := by
      have e := cut_row (f := f) hy2 (show 0 < w by omega)
      rw [cut_eq] at e
      rw [ye, yf, Int.toNat_natCast, Int.toNat_natCast, Nat.add_sub_cancel_left]
      exact e
    have be2 : TC R Try.prog bytes_Equal_f [.lst Ey (rowB w fun x => f x y), .lst Ey (rowB w (abv f y))] [] (fun v X => v = .bool (sameR w f y) ∧ X = []) := be
    have ab1 : abv f (y + 1) = fun x => f x y := rfl
    have cj : ctx L j = 2048 := congrArg Prod.fst ej
    have bj : bitA L j = (sameR w f y).toNat := congrArg Prod.snd ej
    have esj := es j
    rw [cj, bj] at esj
    have hjl : j < L.length := by
      rw [hL, hj]
      obtain ⟨M, hM⟩ := evs_mono (w := w) (h := k) (f := f) (sm := sameR w f) (show y + 1 ≤ k by omega)
      rw [hM, List.length_append]
      show _ < (evs w k f (sameR w f) y ++ rowE w k f (sameR w f) y).length + _
      rw [List.length_append, rowE_len]; omega
    obtain ⟨s, hs⟩ : ∃ s, s = E j := ⟨_, rfl⟩
    have ly : (evs w k f (sameR w f) (y + 1)).length = j + (1 + (if sameR w f y = true then 0 else w)) := by
      show (evs w k f (sameR w f) y ++ rowE w k f (sameR w f) y).length = _
      rw [List.length_append, rowE_len, ← hj]
    rw [← hs] at so hg esj
    cases hsm : sameR w f y
    · rw [hsm] at be2 esj ly
      rw [if_neg (by simp)] at ly
      have pc0 := put1_c s j 2048 0 2048 0 rfl rfl so (by omega) (by omega) (by omega)
      have lyl : j + (1 + w) ≤ L.length := by
        rw [← ly, hL]
        obtain ⟨M, hM⟩ := evs_mono (w := w) (h := k) (f := f) (sm := sameR w f) (show y + 1 ≤ k by omega)
        rw [hM, List.length_append]; omega
      cases g
      · dsimp only
        rw [← hj, ← hs]
        cases he : emits s 2048 0
        · rw [he] at pc0
          dsimp only [enP, Bool.not_true, Bool.not_false] at pc0
          repeat' (first
            | exact d1
            | exact d2
            | exact d3
            | refine GZp_i_y ?_ ?_ ?_ ?_ ?_ ?_ ?_ ?_
            | with_reducible first | exact BzZq.mk | refine Tw.ret ?_ | refine ImZq.i fun h => ?_ | refine IkZq.i fun hk => ?_)
          rw [eR]
          repeat' (first
            | ((with_reducible refine TOps.any ?_); refine TOps.callV env (by rfl) (by rfl) (by rfl) (be2) ?_)
            | ((with_reducible refine TOps.any ?_); refine TOps.callHE env [1, 2, 3, 4, 6] (pc0) (by rfl) (by rfl) (by rfl) (by rfl) (by rfl) (by rfl) (by repeat' (first | exact trivial | refine ⟨rfl, ?_⟩)) ?_)
            | refine GZp_i_y ?_ ?_ ?_ ?_ ?_ ?_ ?_ ?_
            | with_reducible first | exact BzZq.mk | refine Tw.ret ?_ | refine ImZq.i fun h => ?_ | refine IkZq.i fun hk => ?_)
          refine Tw.loopK [0, 1, 2, 6, 8, 9, 24, 25, 56] (fun i : Nat × Bool => i.1 ≤ w ∧ i.2 = zN (E (j + 1 + i.1))) (fun i => w - i.1) (fun i => [(57, .int .i64 i.1)])
            (fun i => match i.2 with
              | true => [some (.cells [.int .i64 w, .int .i64 k, .lst Ey (bm w k f)]), some (.cells [.int .i64 0]), some (.cells [.ptr 3 0]), some (.cells [.sla 2 4 0 (E (j + 1 + i.1)).cs.length, .int .u32 (E (j + 1 + i.1)).w, .int .i64 (j + 1 + i.1 : Nat), .int .u32 (low (E (j + 1 + i.1)).V), .sla 1 5 0 (E (j + 1 + i.1)).n, .bool false]), some (.arr E2w (E (j + 1 + i.1)).cs), some (.arr Ey (top (E (j + 1 + i.1)).n (E (j + 1 + i.1)).V))]
              | false => [some (.cells [.int .i64 w, .int .i64 k, .lst Ey (bm w k f)]), some (.cells [.int .i64 0]), some (.cells [.ptr 3 0]), some (.cells [.sla 2 4 0 (E (j + 1 + i.1)).cs.length, .int .u32 (E (j + 1 + i.1)).w, .int .i64 (j + 1 + i.1 : Nat), .int .u32 (low (E (j + 1 + i.1)).V), .sla 1 6 0 (E (j + 1 + i.1)).n, .bool false]), some (.arr E2w (E (j + 1 + i.1)).cs), none, some (.arr Ey (top (E (j + 1 + i.1)).n (E (j + 1 + i.1)).V))])
            ⟨(0, false), ⟨by simp, by simp only; rw [Nat.add_zero, esj, zN_step, ← hg, show (false).toNat = 0 from rfl, he]; rfl⟩, ?_⟩ (fun i hi => ?_)
          · dsimp only
            rw [Nat.add_zero, esj, show (false).toNat = 0 from rfl]
            refine TWk.fcanon env [some 0, some 1, some 2, some 3, some 4, some 5, some 6] (by rfl) ?_
            repeat' (first | exact trivial | refine ⟨rfl, ?_⟩)
          obtain ⟨x, g3⟩ := i
          obtain ⟨hx, hg3⟩ := hi
          simp only at hx hg3
          rcases Nat.lt_or_ge x w with hx2 | hx2
          · have eb : L.getD (j + 1 + x) (0, 0) = (win w k f x y, (f x y).toNat) := by rw [hL, hj]; exact evs_bit hy2 hsm hx2
            have so3 := eo (j + 1 + x) (by omega)
            have ic := is_c w k (bm w k f) x y ok
            rw [px_bm hx2 hy2] at ic
            have wc := window_c w k (bm w k f) x y ok (by omega) (by omega)
            have wi : winV (px w k (bm w k f)) x y = (win w k f x y : Int) := win_int
            rw [wi] at wc
            have es3 := es (j + 1 + x)
            rw [show ctx L (j + 1 + x) = win w k f x y from congrArg Prod.fst eb, show bitA L (j + 1 + x) = (f x y).toNat from congrArg Prod.snd eb] at es3
            have wl := win_lt (w := w) (h := k) (f := f) (x := x) (y := y)
            obtain ⟨s3, hs3⟩ : ∃ s3, s3 = E (j + 1 + x) := ⟨_, rfl⟩
            rw [← hs3] at so3 hg3 es3
            have nx3 : j + 1 + (x + 1) = j + 1 + x + 1 := by omega
            cases g3 <;> cases hf : f x y <;> rw [hf] at ic es3
            · have pc3 := put1_c s3 (j + 1 + x) (win w k f x y) 0 (win w k f x y) 0 rfl rfl so3 (by omega) (by omega) (by omega)
              dsimp only
              rw [← hs3]
              cases he3 : emits s3 (win w k f x y) 0
              · rw [he3] at pc3
                dsimp only [enP, Bool.not_true, Bool.not_false] at pc3
                repeat' (first
                  | ((with_reducible refine TOps.any ?_); refine TOps.callE env (by rfl) (by rfl) (by rfl) ?_ (ic) (by rfl) ?_)
                  | ((with_reducible refine TOps.any ?_); refine TOps.callE env (by rfl) (by rfl) (by rfl) ?_ (wc) (by rfl) ?_)
                  | ((with_reducible refine TOps.any ?_); refine TOps.callHE env [1, 2, 3, 4, 6] (pc3) (by rfl) (by rfl) (by rfl) (by rfl) (by rfl) (by rfl) (by repeat' (first | exact trivial | refine ⟨rfl, ?_⟩)) ?_)
                  | refine GZp_i_y ?_ ?_ ?_ ?_ ?_ ?_ ?_ ?_
                  | with_reducible first | exact BzZq.mk | refine Tw.ret ?_ | refine ImZq.i fun h => ?_ | refine IkZq.i fun hk => ?_)
                refine ⟨(x + 1, false), ⟨by simp only; omega, by simp only; rw [nx3, es3, zN_step, ← hg3, show (false).toNat = 0 from rfl, he3]; rfl⟩, by simp only; omega, ?_⟩
                dsimp only
                rw [nx3, es3, show (false).toNat = 0 from rfl]
                refine TWk.fcanon env [some 0, some 1, some 2, some 3, some 4, some 5, some 6] (by rfl) ?_
                repeat' (first | exact trivial | refine ⟨rfl, ?_⟩)
              · rw [he3] at pc3
                dsimp only [enP, Bool.not_true, Bool.not_false] at pc3
                repeat' (first
                  | ((with_reducible refine TOps.any ?_); refine TOps.callE env (by rfl) (by rfl) (by rfl) ?_ (ic) (by rfl) ?_)
                  | ((with_reducible refine TOps.any ?_); refine TOps.callE env (by rfl) (by rfl) (by rfl) ?_ (wc) (by rfl) ?_)
                  | ((with_reducible refine TOps.any ?_); refine TOps.callHE env [1, 2, 3, 4, 6] (pc3) (by rfl) (by rfl) (by rfl) (by rfl) (by rfl) (by rfl) (by repeat' (first | exact trivial | refine ⟨rfl, ?_⟩)) ?_)
                  | refine GZp_i_y ?_ ?_ ?_ ?_ ?_ ?_ ?_ ?_
                  | with_reducible first | exact BzZq.mk | refine Tw.ret ?_ | refine ImZq.i fun h => ?_ | refine IkZq.i fun hk => ?_)
                refine ⟨(x + 1, false), ⟨by simp only; omega, by simp only; rw [nx3, es3, zN_step, ← hg3, show (false).toNat = 0 from rfl, he3]; rfl⟩, by simp only; omega, ?_⟩
                dsimp only
                rw [nx3, es3, show (false).toNat = 0 from rfl]
                refine TWk.fcanon env [some 0, some 1, some 2, some 3, some 4, some 5, some 7] (by rfl) ?_
                repeat' (first | exact trivial | refine ⟨rfl, ?_⟩)
            · have pc3 := put1_c s3 (j + 1 + x) (win w k f x y) 1 (win w k f x y) 1 rfl rfl so3 (by omega) (by omega) (by omega)
              dsimp only
              rw [← hs3]
              cases he3 : emits s3 (win w k f x y) 1
              · rw [he3] at pc3
                dsimp only [enP, Bool.not_true, Bool.not_false] at pc3
                repeat' (first
                  | ((with_reducible refine TOps.any ?_); refine TOps.callE env (by rfl) (by rfl) (by rfl) ?_ (ic) (by rfl) ?_)
                  | ((with_reducible refine TOps.any ?_); refine TOps.callE env (by rfl) (by rfl) (by rfl) ?_ (wc) (by rfl) ?_)
                  | ((with_reducible refine TOps.any ?_); refine TOps.callHE env [1, 2, 3, 4, 6] (pc3) (by rfl) (by rfl) (by rfl) (by rfl) (by rfl) (by rfl) (by repeat' (first | exact trivial | refine ⟨rfl, ?_⟩)) ?_)
                  | refine GZp_i_y ?_ ?_ ?_ ?_ ?_ ?_ ?_ ?_
                  | with_reducible first | exact BzZq.mk | refine Tw.ret ?_ | refine ImZq.i fun h => ?_ | refine IkZq.i fun hk => ?_)
                refine ⟨(x + 1, false), ⟨by simp only; omega, by simp only; rw [nx3, es3, zN_step, ← hg3, show (true).toNat = 1 from rfl, he3]; rfl⟩, by simp only; omega, ?_⟩
                dsimp only
                rw [nx3, es3, show (true).toNat = 1 from rfl]
                refine TWk.fcanon env [some 0, some 1, some 2, some 3, some 4, some 5, some 6] (by rfl) ?_
                repeat' (first | exact trivial | refine ⟨rfl, ?_⟩)
              · rw [he3] at pc3
                dsimp only [enP, Bool.not_true, Bool.not_false] at pc3
                repeat' (first
                  | ((with_reducible refine TOps.any ?_); refine TOps.callE env (by rfl) (by rfl) (by rfl) ?_ (ic) (by rfl) ?_)
                  | ((with_reducible refine TOps.any ?_); refine TOps.callE env (by rfl) (by rfl) (by rfl) ?_ (wc) (by rfl) ?_)
                  | ((with_reducible refine TOps.any ?_); refine TOps.callHE env [1, 2, 3, 4, 6] (pc3) (by rfl) (by rfl) (by rfl) (by rfl) (by rfl) (by rfl) (by repeat' (first | exact trivial | refine ⟨rfl, ?_⟩)) ?_)
                  | refine GZp_i_y ?_ ?_ ?_ ?_ ?_ ?_ ?_ ?_
                  | with_reducible first | exact BzZq.mk | refine Tw.ret ?_ | refine ImZq.i fun h => ?_ | refine IkZq.i fun hk => ?_)
                refine ⟨(x + 1, false), ⟨by simp only; omega, by simp only; rw [nx3, es3, zN_step, ← hg3, show (true).toNat = 1 from rfl, he3]; rfl⟩, by simp only; omega, ?_⟩
                dsimp only
                rw [nx3, es3, show (true).toNat = 1 from rfl]
                refine TWk.fcanon env [some 0, some 1, some 2, some 3, some 4, some 5, some 7] (by rfl) ?_
                repeat' (first | exact trivial | refine ⟨rfl, ?_⟩)
            · have pc3 := put1_c s3 (j + 1 + x) (win w k f x y) 0 (win w k f x y) 0 rfl rfl so3 (by omega) (by omega) (by omega)
              dsimp only
              rw [← hs3]
              cases he3 : emits s3 (win w k f x y) 0
              · rw [he3] at pc3
                dsimp only [enP, Bool.not_true, Bool.not_false] at pc3
                repeat' (first
                  | ((with_reducible refine TOps.any ?_); refine TOps.callE env (by rfl) (by rfl) (by rfl) ?_ (ic) (by rfl) ?_)
                  | ((with_reducible refine TOps.any ?_); refine TOps.callE env (by rfl) (by rfl) (by rfl) ?_ (wc) (by rfl) ?_)
                  | ((with_reducible refine TOps.any ?_); refine TOps.callHE env [1, 2, 3, 4, 5] (pc3) (by rfl) (by rfl) (by rfl) (by rfl) (by rfl) (by rfl) (by repeat' (first | exact trivial | refine ⟨rfl, ?_⟩)) ?_)
                  | refine GZp_i_y ?_ ?_ ?_ ?_ ?_ ?_ ?_ ?_
                  | with_reducible first | exact BzZq.mk | refine Tw.ret ?_ | refine ImZq.i fun h => ?_ | refine IkZq.i fun hk => ?_)
                refine ⟨(x + 1, true), ⟨by simp only; omega, by simp only; rw [nx3, es3, zN_step, ← hg3, show (false).toNat = 0 from rfl, he3]; rfl⟩, by simp only; omega, ?_⟩
                dsimp only
                rw [nx3, es3, show (false).toNat = 0 from rfl]
                refine TWk.fcanon env [some 0, some 1, some 2, some 3, some 4, some 5] (by rfl) ?_
                repeat' (first | exact trivial | refine ⟨rfl, ?_⟩)
              · rw [he3] at pc3
                dsimp only [enP, Bool.not_true, Bool.not_false] at pc3
                repeat' (first
                  | ((with_reducible refine TOps.any ?_); refine TOps.callE env (by rfl) (by rfl) (by rfl) ?_ (ic) (by rfl) ?_)
                  | ((with_reducible refine TOps.any ?_); refine TOps.callE env (by rfl) (by rfl) (by rfl) ?_ (wc) (by rfl) ?_)
                  | ((with_reducible refine TOps.any ?_); refine TOps.callHE env [1, 2, 3, 4, 5] (pc3) (by rfl) (by rfl) (by rfl) (by rfl) (by rfl) (by rfl) (by repeat' (first | exact trivial | refine ⟨rfl, ?_⟩)) ?_)
                  | refine GZp_i_y ?_ ?_ ?_ ?_ ?_ ?_ ?_ ?_
                  | with_reducible first | exact BzZq.mk | refine Tw.ret ?_ | refine ImZq.i fun h => ?_ | refine IkZq.i fun hk => ?_)
                refine ⟨(x + 1, false), ⟨by simp only; omega, by simp only; rw [nx3, es3, zN_step, ← hg3, show (false).toNat = 0 from rfl, he3]; rfl⟩, by simp only; omega, ?_⟩
                dsimp only
                rw [nx3, es3, show (false).toNat = 0 from rfl]
                refine TWk.fcanon env [some 0, some 1, some 2, some 3, some 4, some 5, some 6] (by rfl) ?_
                repeat' (first | exact trivial | refine ⟨rfl, ?_⟩)
            · have pc3 := put1_c s3 (j + 1 + x) (win w k f x y) 1 (win w k f x y) 1 rfl rfl so3 (by omega) (by omega) (by omega)
              dsimp only
              rw [← hs3]
              cases he3 : emits s3 (win w k f x y) 1
              · rw [he3] at pc3
                dsimp only [enP, Bool.not_true, Bool.not_false] at pc3
                repeat' (first
                  | ((with_reducible refine TOps.any ?_); refine TOps.callE env (by rfl) (by rfl) (by rfl) ?_ (ic) (by rfl) ?_)
                  | ((with_reducible refine TOps.any ?_); refine TOps.callE env (by rfl) (by rfl) (by rfl) ?_ (wc) (by rfl) ?_)
                  | ((with_reducible refine TOps.any ?_); refine TOps.callHE env [1, 2, 3, 4, 5] (pc3) (by rfl) (by rfl) (by rfl) (by rfl) (by rfl) (by rfl) (by repeat' (first | exact trivial | refine ⟨rfl, ?_⟩)) ?_)
                  | refine GZp_i_y ?_ ?_ ?_ ?_ ?_ ?_ ?_ ?_
                  | with_reducible first | exact BzZq.mk | refine Tw.ret ?_ | refine ImZq.i fun h => ?_ | refine IkZq.i fun hk => ?_)
                refine ⟨(x + 1, true), ⟨by simp only; omega, by simp only; rw [nx3, es3, zN_step, ← hg3, show (true).toNat = 1 from rfl, he3]; rfl⟩, by simp only; omega, ?_⟩
                dsimp only
                rw [nx3, es3, show (true).toNat = 1 from rfl]
                refine TWk.fcanon env [some 0, some 1, some 2, some 3, some 4, some 5] (by rfl) ?_
                repeat' (first | exact trivial | refine ⟨rfl, ?_⟩)
              · rw [he3] at pc3
                dsimp only [enP, Bool.not_true, Bool.not_false] at pc3
                repeat' (first
                  | ((with_reducible refine TOps.any ?_); refine TOps.callE env (by rfl) (by rfl) (by rfl) ?_ (ic) (by rfl) ?_)
                  | ((with_reducible refine TOps.any ?_); refine TOps.callE env (by rfl) (by rfl) (by rfl) ?_ (wc) (by rfl) ?_)
                  | ((with_reducible refine TOps.any ?_); refine TOps.callHE env [1, 2, 3, 4, 5] (pc3) (by rfl) (by rfl) (by rfl) (by rfl) (by rfl) (by rfl) (by repeat' (first | exact trivial | refine ⟨rfl, ?_⟩)) ?_)
                  | refine GZp_i_y ?_ ?_ ?_ ?_ ?_ ?_ ?_ ?_
                  | with_reducible first | exact BzZq.mk | refine Tw.ret ?_ | refine ImZq.i fun h => ?_ | refine IkZq.i fun hk => ?_)
                refine ⟨(x + 1, false), ⟨by simp only; omega, by simp only; rw [nx3, es3, zN_step, ← hg3, show (true).toNat = 1 from rfl, he3]; rfl⟩, by simp only; omega, ?_⟩
                dsimp only
                rw [nx3, es3, show (true).toNat = 1 from rfl]
                refine TWk.fcanon env [some 0, some 1, some 2, some 3, some 4, some 5, some 6] (by rfl) ?_
                repeat' (first | exact trivial | refine ⟨rfl, ?_⟩)
          · obtain rfl : x = w := by omega
            have lx : (evs x k f (sameR x f) (y + 1)).length = j + 1 + x := by rw [ly]; omega
            cases g3
            · dsimp only
              repeat' (first
                | refine GZp_i_y ?_ ?_ ?_ ?_ ?_ ?_ ?_ ?_
                | with_reducible first | exact BzZq.mk | refine Tw.ret ?_ | refine ImZq.i fun h => ?_ | refine IkZq.i fun hk => ?_)
              refine ⟨(y + 1, false), ⟨hy2, by simp only; rw [lx]; exact hg3⟩, by simp only; omega, ?_⟩
              dsimp only
              rw [lx]
              refine TWk.fcanon env [some 0, some 1, some 2, some 3, some 4, some 5, some 6] (by rfl) ?_
              repeat' (first | exact trivial | refine ⟨rfl, ?_⟩)
            · dsimp only
              repeat' (first
                | refine GZp_i_y ?_ ?_ ?_ ?_ ?_ ?_ ?_ ?_
                | with_reducible first | exact BzZq.mk | refine Tw.ret ?_ | refine ImZq.i fun h => ?_ | refine IkZq.i fun hk => ?_)
              refine ⟨(y + 1, true), ⟨hy2, by simp only; rw [lx]; exact hg3⟩, by simp only; omega, ?_⟩
              dsimp only
              rw [lx]
              refine TWk.fcanon env [some 0, some 1, some 2, some 3, some 4, some 5] (by rfl) ?_
              repeat' (first | exact trivial | refine ⟨rfl, ?_⟩)
        · rw [he] at pc0
          dsimp only [enP, Bool.not_true, Bool.not_false] at pc0
          repeat' (first
            | exact d1
            | exact d2
            | exact d3
            | refine GZp_i_y ?_ ?_ ?_ ?_ ?_ ?_ ?_ ?_
            | with_reducible first | exact BzZq.mk | refine Tw.ret ?_ | refine ImZq.i fun h => ?_ | refine IkZq.i fun hk => ?_)
          rw [eR]
          repeat' (first
            | ((with_reducible refine TOps.any ?_); refine TOps.callV env (by rfl) (by rfl) (by rfl) (be2) ?_)
            | ((with_reducible refine TOps.any ?_); refine TOps.callHE env [1, 2, 3, 4, 6] (pc0) (by rfl) (by rfl) (by rfl) (by rfl) (by rfl) (by rfl) (by repeat' (first | exact trivial | refine ⟨rfl, ?_⟩)) ?_)
            | refine GZp_i_y ?_ ?_ ?_ ?_ ?_ ?_ ?_ ?_
            | with_reducible first | exact BzZq.mk | refine Tw.ret ?_ | refine ImZq.i fun h => ?_ | refine IkZq.i fun hk => ?_)
          refine Tw.loopK [0, 1, 2, 6, 8, 9, 24, 25, 56] (fun i : Nat × Bool => i.1 ≤ w ∧ i.2 = zN (E (j + 1 + i.1))) (fun i => w - i.1) (fun i => [(57, .int .i64 i.1)])
            (fun i => match i.2 with
              | true => [some (.cells [.int .i64 w, .int .i64 k, .lst Ey (bm w k f)]), some (.cells [.int .i64 0]), some (.cells [.ptr 3 0]), some (.cells [.sla 2 4 0 (E (j + 1 + i.1)).cs.length, .int .u32 (E (j + 1 + i.1)).w, .int .i64 (j + 1 + i.1 : Nat), .int .u32 (low (E (j + 1 + i.1)).V), .sla 1 5 0 (E (j + 1 + i.1)).n, .bool false]), some (.arr E2w (E (j + 1 + i.1)).cs), some (.arr Ey (top (E (j + 1 + i.1)).n (E (j + 1 + i.1)).V))]
              | false => [some (.cells [.int .i64 w, .int .i64 k, .lst Ey (bm w k f)]), some (.cells [.int .i64 0]), some (.cells [.ptr 3 0]), some (.cells [.sla 2 4 0 (E (j + 1 + i.1)).cs.length, .int .u32 (E (j + 1 + i.1)).w, .int .i64 (j + 1 + i.1 : Nat), .int .u32 (low (E (j + 1 + i.1)).V), .sla 1 6 0 (E (j + 1 + i.1)).n, .bool false]), some (.arr E2w (E (j + 1 + i.1)).cs), none, some (.arr Ey (top (E (j + 1 + i.1)).n (E (j + 1 + i.1)).V))])
            ⟨(0, false), ⟨by simp, by simp only; rw [Nat.add_zero, esj, zN_step, ← hg, show (false).toNat = 0 from rfl, he]; rfl⟩, ?_⟩ (fun i hi => ?_)
          · dsimp only
            rw [Nat.add_zero, esj, show (false).toNat = 0 from rfl]
            refine TWk.fcanon env [some 0, some 1, some 2, some 3, some 4, some 5, some 7] (by rfl) ?_
            repeat' (first | exact trivial | refine ⟨rfl, ?_⟩)
          obtain ⟨x, g3⟩ := i
          obtain ⟨hx, hg3⟩ := hi
          simp only at hx hg3
          rcases Nat.lt_or_ge x w with hx2 | hx2
          · have eb : L.getD (j + 1 + x) (0, 0) = (win w k f x y, (f x y).toNat) := by rw [hL, hj]; exact evs_bit hy2 hsm hx2
            have so3 := eo (j + 1 + x) (by omega)
            have ic := is_c w k (bm w k f) x y ok
            rw [px_bm hx2 hy2] at ic
            have wc := window_c w k (bm w k f) x y ok (by omega) (by omega)
            have wi : winV (px w k (bm w k f)) x y = (win w k f x y : Int) := win_int
            rw [wi] at wc
            have es3 := es (j + 1 + x)
            rw [show ctx L (j + 1 + x) = win w k f x y from congrArg Prod.fst eb, show bitA L (j + 1 + x) = (f x y).toNat from congrArg Prod.snd eb] at es3
            have wl := win_lt (w := w) (h := k) (f := f) (x := x) (y := y)
            obtain ⟨s3, hs3⟩ : ∃ s3, s3 = E (j + 1 + x) := ⟨_, rfl⟩
            rw [← hs3] at so3 hg3 es3
            have nx3 : j + 1 + (x + 1) = j + 1 + x + 1 := by omega
            cases g3 <;> cases hf : f x y <;> rw [hf] at ic es3
            · have pc3 := put1_c s3 (j + 1 + x) (win w k f x y) 0 (win w k f x y) 0 rfl rfl so3 (by omega) (by omega) (by omega)
              dsimp only
              rw [← hs3]
              cases he3 : emits s3 (win w k f x y) 0
              · rw [he3] at pc3
                dsimp only [enP, Bool.not_true, Bool.not_false] at pc3
                repeat' (first
                  | ((with_reducible refine TOps.any ?_); refine TOps.callE env (by rfl) (by rfl) (by rfl) ?_ (ic) (by rfl) ?_)
                  | ((with_reducible refine TOps.any ?_); refine TOps.callE env (by rfl) (by rfl) (by rfl) ?_ (wc) (by rfl) ?_)
                  | ((with_reducible refine TOps.any ?_); refine TOps.callHE env [1, 2, 3, 4, 6] (pc3) (by rfl) (by rfl) (by rfl) (by rfl) (by rfl) (by rfl) (by repeat' (first | exact trivial | refine ⟨rfl, ?_⟩)) ?_)
                  | refine GZp_i_y ?_ ?_ ?_ ?_ ?_ ?_ ?_ ?_
                  | with_reducible first | exact BzZq.mk | refine Tw.ret ?_ | refine ImZq.i fun h => ?_ | refine IkZq.i fun hk => ?_)
                refine ⟨(x + 1, false), ⟨by simp only; omega, by simp only; rw [nx3, es3, zN_step, ← hg3, show (false).toNat = 0 from rfl, he3]; rfl⟩, by simp only; omega, ?_⟩
                dsimp only
                rw [nx3, es3, show (false).toNat = 0 from rfl]
                refine TWk.fcanon env [some 0, some 1, some 2, some 3, some 4, some 5, some 6] (by rfl) ?_
                repeat' (first | exact trivial | refine ⟨rfl, ?_⟩)
              · rw [he3] at pc3
                dsimp only [enP, Bool.not_true, Bool.not_false] at pc3
                repeat' (first
                  | ((with_reducible refine TOps.any ?_); refine TOps.callE env (by rfl) (by rfl) (by rfl) ?_ (ic) (by rfl) ?_)
                  | ((with_reducible refine TOps.any ?_); refine TOps.callE env (by rfl) (by rfl) (by rfl) ?_ (wc) (by rfl) ?_)
                  | ((with_reducible refine TOps.any ?_); refine TOps.callHE env [1, 2, 3, 4, 6] (pc3) (by rfl) (by rfl) (by rfl) (by rfl) (by rfl) (by rfl) (by repeat' (first | exact trivial | refine ⟨rfl, ?_⟩)) ?_)
                  | refine GZp_i_y ?_ ?_ ?_ ?_ ?_ ?_ ?_ ?_
                  | with_reducible first | exact BzZq.mk | refine Tw.ret ?_ | refine ImZq.i fun h => ?_ | refine IkZq.i fun hk => ?_)
                refine ⟨(x + 1, false), ⟨by simp only; omega, by simp only; rw [nx3, es3, zN_step, ← hg3, show (false).toNat = 0 from rfl, he3]; rfl⟩, by simp only; omega, ?_⟩
                dsimp only
                rw [nx3, es3, show (false).toNat = 0 from rfl]
                refine TWk.fcanon env [some 0, some 1, some 2, some 3, some 4, some 5, some 7] (by rfl) ?_
                repeat' (first | exact trivial | refine ⟨rfl, ?_⟩)
            · have pc3 := put1_c s3 (j + 1 + x) (win w k f x y) 1 (win w k f x y) 1 rfl rfl so3 (by omega) (by omega) (by omega)
              dsimp only
              rw [← hs3]
              cases he3 : emits s3 (win w k f x y) 1
              · rw [he3] at pc3
                dsimp only [enP, Bool.not_true, Bool.not_false] at pc3
                repeat' (first
                  | ((with_reducible refine TOps.any ?_); refine TOps.callE env (by rfl) (by rfl) (by rfl) ?_ (ic) (by rfl) ?_)
                  | ((with_reducible refine TOps.any ?_); refine TOps.callE env (by rfl) (by rfl) (by rfl) ?_ (wc) (by rfl) ?_)
                  | ((with_reducible refine TOps.any ?_); refine TOps.callHE env [1, 2, 3, 4, 6] (pc3) (by rfl) (by rfl) (by rfl) (by rfl) (by rfl) (by rfl) (by repeat' (first | exact trivial | refine ⟨rfl, ?_⟩)) ?_)
                  | refine GZp_i_y ?_ ?_ ?_ ?_ ?_ ?_ ?_ ?_
                  | with_reducible first | exact BzZq.mk | refine Tw.ret ?_ | refine ImZq.i fun h => ?_ | refine IkZq.i fun hk => ?_)
                refine ⟨(x + 1, false), ⟨by simp only; omega, by simp only; rw [nx3, es3, zN_step, ← hg3, show (true).toNat = 1 from rfl, he3]; rfl⟩, by simp only; omega, ?_⟩
                dsimp only
                rw [nx3, es3, show (true).toNat = 1 from rfl]
                refine TWk.fcanon env [some 0, some 1, some 2, some 3, some 4, some 5, some 6] (by rfl) ?_
                repeat' (first | exact trivial | refine ⟨rfl, ?_⟩)
              · rw [he3] at pc3
                dsimp only [enP, Bool.not_true, Bool.not_false] at pc3
                repeat' (first
                  | ((with_reducible refine TOps.any ?_); refine TOps.callE env (by rfl) (by rfl) (by rfl) ?_ (ic) (by rfl) ?_)
                  | ((with_reducible refine TOps.any ?_); refine TOps.callE env (by rfl) (by rfl) (by rfl) ?_ (wc) (by rfl) ?_)
                  | ((with_reducible refine TOps.any ?_); refine TOps.callHE env [1, 2, 3, 4, 6] (pc3) (by rfl) (by rfl) (by rfl) (by rfl) (by rfl) (by rfl) (by repeat' (first | exact trivial | refine ⟨rfl, ?_⟩)) ?_)
                  | refine GZp_i_y ?_ ?_ ?_ ?_ ?_ ?_ ?_ ?_
                  | with_reducible first | exact BzZq.mk | refine Tw.ret ?_ | refine ImZq.i fun h => ?_ | refine IkZq.i fun hk => ?_)
                refine ⟨(x + 1, false), ⟨by simp only; omega, by simp only; rw [nx3, es3, zN_step, ← hg3, show (true).toNat = 1 from rfl, he3]; rfl⟩, by simp only; omega, ?_⟩
                dsimp only
                rw [nx3, es3, show (true).toNat = 1 from rfl]
                refine TWk.fcanon env [some 0, some 1, some 2, some 3, some 4, some 5, some 7] (by rfl) ?_
                repeat' (first | exact trivial | refine ⟨rfl, ?_⟩)
            · have pc3 := put1_c s3 (j + 1 + x) (win w k f x y) 0 (win w k f x y) 0 rfl rfl so3 (by omega) (by omega) (by omega)
              dsimp only
              rw [← hs3]
              cases he3 : emits s3 (win w k f x y) 0
              · rw [he3] at pc3
                dsimp only [enP, Bool.not_true, Bool.not_false] at pc3
                repeat' (first
                  | ((with_reducible refine TOps.any ?_); refine TOps.callE env (by rfl) (by rfl) (by rfl) ?_ (ic) (by rfl) ?_)
                  | ((with_reducible refine TOps.any ?_); refine TOps.callE env (by rfl) (by rfl) (by rfl) ?_ (wc) (by rfl) ?_)
                  | ((with_reducible refine TOps.any ?_); refine TOps.callHE env [1, 2, 3, 4, 5] (pc3) (by rfl) (by rfl) (by rfl) (by rfl) (by rfl) (by rfl) (by repeat' (first | exact trivial | refine ⟨rfl, ?_⟩)) ?_)
                  | refine GZp_i_y ?_ ?_ ?_ ?_ ?_ ?_ ?_ ?_
                  | with_reducible first | exact BzZq.mk | refine Tw.ret ?_ | refine ImZq.i fun h => ?_ | refine IkZq.i fun hk => ?_)
                refine ⟨(x + 1, true), ⟨by simp only; omega, by simp only; rw [nx3, es3, zN_step, ← hg3, show (false).toNat = 0 from rfl, he3]; rfl⟩, by simp only; omega, ?_⟩
                dsimp only
                rw [nx3, es3, show (false).toNat = 0 from rfl]
                refine TWk.fcanon env [some 0, some 1, some 2, some 3, some 4, some 5] (by rfl) ?_
                repeat' (first | exact trivial | refine ⟨rfl, ?_⟩)
              · rw [he3] at pc3
                dsimp only [enP, Bool.not_true, Bool.not_false] at pc3
                repeat' (first
                  | ((with_reducible refine TOps.any ?_); refine TOps.callE env (by rfl) (by rfl) (by rfl) ?_ (ic) (by rfl) ?_)
                  | ((with_reducible refine TOps.any ?_); refine TOps.callE env (by rfl) (by rfl) (by rfl) ?_ (wc) (by rfl) ?_)
                  | ((with_reducible refine TOps.any ?_); refine TOps.callHE env [1, 2, 3, 4, 5] (pc3) (by rfl) (by rfl) (by rfl) (by rfl) (by rfl) (by rfl) (by repeat' (first | exact trivial | refine ⟨rfl, ?_⟩)) ?_)
                  | refine GZp_i_y ?_ ?_ ?_ ?_ ?_ ?_ ?_ ?_
                  | with_reducible first | exact BzZq.mk | refine Tw.ret ?_ | refine ImZq.i fun h => ?_ | refine IkZq.i fun hk => ?_)
                refine ⟨(x + 1, false), ⟨by simp only; omega, by simp only; rw [nx3, es3, zN_step, ← hg3, show (false).toNat = 0 from rfl, he3]; rfl⟩, by simp only; omega, ?_⟩
                dsimp only
                rw [nx3, es3, show (false).toNat = 0 from rfl]
                refine TWk.fcanon env [some 0, some 1, some 2, some 3, some 4, some 5, some 6] (by rfl) ?_
                repeat' (first | exact trivial | refine ⟨rfl, ?_⟩)
            · have pc3 := put1_c s3 (j + 1 + x) (win w k f x y) 1 (win w k f x y) 1 rfl rfl so3 (by omega) (by omega) (by omega)
              dsimp only
              rw [← hs3]
              cases he3 : emits s3 (win w k f x y) 1
              · rw [he3] at pc3
                dsimp only [enP, Bool.not_true, Bool.not_false] at pc3
                repeat' (first
                  | ((with_reducible refine TOps.any ?_); refine TOps.callE env (by rfl) (by rfl) (by rfl) ?_ (ic) (by rfl) ?_)
                  | ((with_reducible refine TOps.any ?_); refine TOps.callE env (by rfl) (by rfl) (by rfl) ?_ (wc) (by rfl) ?_)
                  | ((with_reducible refine TOps.any ?_); refine TOps.callHE env [1, 2, 3, 4, 5] (pc3) (by rfl) (by rfl) (by rfl) (by rfl) (by rfl) (by rfl) (by repeat' (first | exact trivial | refine ⟨rfl, ?_⟩)) ?_)
                  | refine GZp_i_y ?_ ?_ ?_ ?_ ?_ ?_ ?_ ?_
                  | with_reducible first | exact BzZq.mk | refine Tw.ret ?_ | refine ImZq.i fun h => ?_ | refine IkZq.i fun hk => ?_)
                refine ⟨(x + 1, true), ⟨by simp only; omega, by simp only; rw [nx3, es3, zN_step, ← hg3, show (true).toNat = 1 from rfl, he3]; rfl⟩, by simp only; omega, ?_⟩
                dsimp only
                rw [nx3, es3, show (true).toNat = 1 from rfl]
                refine TWk.fcanon env [some 0, some 1, some 2, some 3, some 4, some 5] (by rfl) ?_
                repeat' (first | exact trivial | refine ⟨rfl, ?_⟩)
              · rw [he3] at pc3
                dsimp only [enP, Bool.not_true, Bool.not_false] at pc3
                repeat' (first
                  | ((with_reducible refine TOps.any ?_); refine TOps.callE env (by rfl) (by rfl) (by rfl) ?_ (ic) (by rfl) ?_)
                  | ((with_reducible refine TOps.any ?_); refine TOps.callE env (by rfl) (by rfl) (by rfl) ?_ (wc) (by rfl) ?_)
                  | ((with_reducible refine TOps.any ?_); refine TOps.callHE env [1, 2, 3, 4, 5] (pc3) (by rfl) (by rfl) (by rfl) (by rfl) (by rfl) (by rfl) (by repeat' (first | exact trivial | refine ⟨rfl, ?_⟩)) ?_)
                  | refine GZp_i_y ?_ ?_ ?_ ?_ ?_ ?_ ?_ ?_
                  | with_reducible first | exact BzZq.mk | refine Tw.ret ?_ | refine ImZq.i fun h => ?_ | refine IkZq.i fun hk => ?_)
                refine ⟨(x + 1, false), ⟨by simp only; omega, by simp only; rw [nx3, es3, zN_step, ← hg3, show (true).toNat = 1 from rfl, he3]; rfl⟩, by simp only; omega, ?_⟩
                dsimp only
                rw [nx3, es3, show (true).toNat = 1 from rfl]
                refine TWk.fcanon env [some 0, some 1, some 2, some 3, some 4, some 5, some 6] (by rfl) ?_
                repeat' (first | exact trivial | refine ⟨rfl, ?_⟩)
          · obtain rfl : x = w := by omega
            have lx : (evs x k f (sameR x f) (y + 1)).length = j + 1 + x := by rw [ly]; omega
            cases g3
            · dsimp only
              repeat' (first
                | refine GZp_i_y ?_ ?_ ?_ ?_ ?_ ?_ ?_ ?_
                | with_reducible first | exact BzZq.mk | refine Tw.ret ?_ | refine ImZq.i fun h => ?_ | refine IkZq.i fun hk => ?_)
              refine ⟨(y + 1, false), ⟨hy2, by simp only; rw [lx]; exact hg3⟩, by simp only; omega, ?_⟩
              dsimp only
              rw [lx]
              refine TWk.fcanon env [some 0, some 1, some 2, some 3, some 4, some 5, some 6] (by rfl) ?_
              repeat' (first | exact trivial | refine ⟨rfl, ?_⟩)
            · dsimp only
              repeat' (first
                | refine GZp_i_y ?_ ?_ ?_ ?_ ?_ ?_ ?_ ?_
                | with_reducible first | exact BzZq.mk | refine Tw.ret ?_ | refine ImZq.i fun h => ?_ | refine IkZq.i fun hk => ?_)
              refine ⟨(y + 1, true), ⟨hy2, by simp only; rw [lx]; exact hg3⟩, by simp only; omega, ?_⟩
              dsimp only
              rw [lx]
              refine TWk.fcanon env [some 0, some 1, some 2, some 3, some 4, some 5] (by rfl) ?_
              repeat' (first | exact trivial | refine ⟨rfl, ?_⟩)
      · dsimp only
        rw [← hj, ← hs]
        cases he : emits s 2048 0
        · rw [he] at pc0
          dsimp only [enP, Bool.not_true, Bool.not_false] at pc0
          repeat' (first
            | exact d1
            | exact d2
            | exact d3
            | refine GZp_i_y ?_ ?_ ?_ ?_ ?_ ?_ ?_ ?_
            | with_reducible first | exact BzZq.mk | refine Tw.ret ?_ | refine ImZq.i fun h => ?_ | refine IkZq.i fun hk => ?_)
          rw [eR]
          repeat' (first
            | ((with_reducible refine TOps.any ?_); refine TOps.callV env (by rfl) (by rfl) (by rfl) (be2) ?_)
            | ((with_reducible refine TOps.any ?_); refine TOps.callHE env [1, 2, 3, 4, 5] (pc0) (by rfl) (by rfl) (by rfl) (by rfl) (by rfl) (by rfl) (by repeat' (first | exact trivial | refine ⟨rfl, ?_⟩)) ?_)
            | refine GZp_i_y ?_ ?_ ?_ ?_ ?_ ?_ ?_ ?_
            | with_reducible first | exact BzZq.mk | refine Tw.ret ?_ | refine ImZq.i fun h => ?_ | refine IkZq.i fun hk => ?_)
          refine Tw.loopK [0, 1, 2, 6, 8, 9, 24, 25, 56] (fun i : Nat × Bool => i.1 ≤ w ∧ i.2 = zN (E (j + 1 + i.1))) (fun i => w - i.1) (fun i => [(57, .int .i64 i.1)])
            (fun i => match i.2 with
              | true => [some (.cells [.int .i64 w, .int .i64 k, .lst Ey (bm w k f)]), some (.cells [.int .i64 0]), some (.cells [.ptr 3 0]), some (.cells [.sla 2 4 0 (E (j + 1 + i.1)).cs.length, .int .u32 (E (j + 1 + i.1)).w, .int .i64 (j + 1 + i.1 : Nat), .int .u32 (low (E (j + 1 + i.1)).V), .sla 1 5 0 (E (j + 1 + i.1)).n, .bool false]), some (.arr E2w (E (j + 1 + i.1)).cs), some (.arr Ey (top (E (j + 1 + i.1)).n (E (j + 1 + i.1)).V))]
              | false => [some (.cells [.int .i64 w, .int .i64 k, .lst Ey (bm w k f)]), some (.cells [.int .i64 0]), some (.cells [.ptr 3 0]), some (.cells [.sla 2 4 0 (E (j + 1 + i.1)).cs.length, .int .u32 (E (j + 1 + i.1)).w, .int .i64 (j + 1 + i.1 : Nat), .int .u32 (low (E (j + 1 + i.1)).V), .sla 1 6 0 (E (j + 1 + i.1)).n, .bool false]), some (.arr E2w (E (j + 1 + i.1)).cs), none, some (.arr Ey (top (E (j + 1 + i.1)).n (E (j + 1 + i.1)).V))])
            ⟨(0, true), ⟨by simp, by simp only; rw [Nat.add_zero, esj, zN_step, ← hg, show (false).toNat = 0 from rfl, he]; rfl⟩, ?_⟩ (fun i hi => ?_)
          · dsimp only
            rw [Nat.add_zero, esj, show (false).toNat = 0 from rfl]
            refine TWk.fcanon env [some 0, some 1, some 2, some 3, some 4, some 5] (by rfl) ?_
            repeat' (first | exact trivial | refine ⟨rfl, ?_⟩)
          obtain ⟨x, g3⟩ := i
          obtain ⟨hx, hg3⟩ := hi
          simp only at hx hg3
          rcases Nat.lt_or_ge x w with hx2 | hx2
          · have eb : L.getD (j + 1 + x) (0, 0) = (win w k f x y, (f x y).toNat) := by rw [hL, hj]; exact evs_bit hy2 hsm hx2
            have so3 := eo (j + 1 + x) (by omega)
            have ic := is_c w k (bm w k f) x y ok
            rw [px_bm hx2 hy2] at ic
            have wc := window_c w k (bm w k f) x y ok (by omega) (by omega)
            have wi : winV (px w k (bm w k f)) x y = (win w k f x y : Int) := win_int
            rw [wi] at wc
            have es3 := es (j + 1 + x)
            rw [show ctx L (j + 1 + x) = win w k f x y from congrArg Prod.fst eb, show bitA L (j + 1 + x) = (f x y).toNat from congrArg Prod.snd eb] at es3
            have wl := win_lt (w := w) (h := k) (f := f) (x := x) (y := y)
            obtain ⟨s3, hs3⟩ : ∃ s3, s3 = E (j + 1 + x) := ⟨_, rfl⟩
            rw [← hs3] at so3 hg3 es3
            have nx3 : j + 1 + (x + 1) = j + 1 + x + 1 := by omega
            cases g3 <;> cases hf : f x y <;> rw [hf] at ic es3
            · have pc3 := put1_c s3 (j + 1 + x) (win w k f x y) 0 (win w k f x y) 0 rfl rfl so3 (by omega) (by omega) (by omega)
              dsimp only
              rw [← hs3]
              cases he3 : emits s3 (win w k f x y) 0
              · rw [he3] at pc3
                dsimp only [enP, Bool.not_true, Bool.not_false] at pc3
                repeat' (first
                  | ((with_reducible refine TOps.any ?_); refine TOps.callE env (by rfl) (by rfl) (by rfl) ?_ (ic) (by rfl) ?_)
                  | ((with_reducible refine TOps.any ?_); refine TOps.callE env (by rfl) (by rfl) (by rfl) ?_ (wc) (by rfl) ?_)
                  | ((with_reducible refine TOps.any ?_); refine TOps.callHE env [1, 2, 3, 4, 6] (pc3) (by rfl) (by rfl) (by rfl) (by rfl) (by rfl) (by rfl) (by repeat' (first | exact trivial | refine ⟨rfl, ?_⟩)) ?_)
                  | refine GZp_i_y ?_ ?_ ?_ ?_ ?_ ?_ ?_ ?_
                  | with_reducible first | exact BzZq.mk | refine Tw.ret ?_ | refine ImZq.i fun h => ?_ | refine IkZq.i fun hk => ?_)
                refine ⟨(x + 1, false), ⟨by simp only; omega, by simp only; rw [nx3, es3, zN_step, ← hg3, show (false).toNat = 0 from rfl, he3]; rfl⟩, by simp only; omega, ?_⟩
                dsimp only
                rw [nx3, es3, show (false).toNat = 0 from rfl]
                refine TWk.fcanon env [some 0, some 1, some 2, some 3, some 4, some 5, some 6] (by rfl) ?_
                repeat' (first | exact trivial | refine ⟨rfl, ?_⟩)
              · rw [he3] at pc3
                dsimp only [enP, Bool.not_true, Bool.not_false] at pc3
                repeat' (first
                  | ((with_reducible refine TOps.any ?_); refine TOps.callE env (by rfl) (by rfl) (by rfl) ?_ (ic) (by rfl) ?_)
                  | ((with_reducible refine TOps.any ?_); refine TOps.callE env (by rfl) (by rfl) (by rfl) ?_ (wc) (by rfl) ?_)
                  | ((with_reducible refine TOps.any ?_); refine TOps.callHE env [1, 2, 3, 4, 6] (pc3) (by rfl) (by rfl) (by rfl) (by rfl) (by rfl) (by rfl) (by repeat' (first | exact trivial | refine ⟨rfl, ?_⟩)) ?_)
                  | refine GZp_i_y ?_ ?_ ?_ ?_ ?_ ?_ ?_ ?_
                  | with_reducible first | exact BzZq.mk | refine Tw.ret ?_ | refine ImZq.i fun h => ?_ | refine IkZq.i fun hk => ?_)
                refine ⟨(x + 1, false), ⟨by simp only; omega, by simp only; rw [nx3, es3, zN_step, ← hg3, show (false).toNat = 0 from rfl, he3]; rfl⟩, by simp only; omega, ?_⟩
                dsimp only
                rw [nx3, es3, show (false).toNat = 0 from rfl]
                refine TWk.fcanon env [some 0, some 1, some 2, some 3, some 4, some 5, some 7] (by rfl) ?_
                repeat' (first | exact trivial | refine ⟨rfl, ?_⟩)
            · have pc3 := put1_c s3 (j + 1 + x) (win w k f x y) 1 (win w k f x y) 1 rfl rfl so3 (by omega) (by omega) (by omega)
              dsimp only
              rw [← hs3]
              cases he3 : emits s3 (win w k f x y) 1
              · rw [he3] at pc3
                dsimp only [enP, Bool.not_true, Bool.not_false] at pc3
                repeat' (first
                  | ((with_reducible refine TOps.any ?_); refine TOps.callE env (by rfl) (by rfl) (by rfl) ?_ (ic) (by rfl) ?_)
                  | ((with_reducible refine TOps.any ?_); refine TOps.callE env (by rfl) (by rfl) (by rfl) ?_ (wc) (by rfl) ?_)
                  | ((with_reducible refine TOps.any ?_); refine TOps.callHE env [1, 2, 3, 4, 6] (pc3) (by rfl) (by rfl) (by rfl) (by rfl) (by rfl) (by rfl) (by repeat' (first | exact trivial | refine ⟨rfl, ?_⟩)) ?_)
                  | refine GZp_i_y ?_ ?_ ?_ ?_ ?_ ?_ ?_ ?_
                  | with_reducible first | exact BzZq.mk | refine Tw.ret ?_ | refine ImZq.i fun h => ?_ | refine IkZq.i fun hk => ?_)
                refine ⟨(x + 1, false), ⟨by simp only; omega, by simp only; rw [nx3, es3, zN_step, ← hg3, show (true).toNat = 1 from rfl, he3]; rfl⟩, by simp only; omega, ?_⟩
                dsimp only
                rw [nx3, es3, show (true).toNat = 1 from rfl]
                refine TWk.fcanon env [some 0, some 1, some 2, some 3, some 4, some 5, some 6] (by rfl) ?_
                repeat' (first | exact trivial | refine ⟨rfl, ?_⟩)
              · rw [he3] at pc3
                dsimp only [enP, Bool.not_true, Bool.not_false] at pc3
                repeat' (first
                  | ((with_reducible refine TOps.any ?_); refine TOps.callE env (by rfl) (by rfl) (by rfl) ?_ (ic) (by rfl) ?_)
                  | ((with_reducible refine TOps.any ?_); refine TOps.callE env (by rfl) (by rfl) (by rfl) ?_ (wc) (by rfl) ?_)
                  | ((with_reducible refine TOps.any ?_); refine TOps.callHE env [1, 2, 3, 4, 6] (pc3) (by rfl) (by rfl) (by rfl) (by rfl) (by rfl) (by rfl) (by repeat' (first | exact trivial | refine ⟨rfl, ?_⟩)) ?_)
                  | refine GZp_i_y ?_ ?_ ?_ ?_ ?_ ?_ ?_ ?_
                  | with_reducible first | exact BzZq.mk | refine Tw.ret ?_ | refine ImZq.i fun h => ?_ | refine IkZq.i fun hk => ?_)
                refine ⟨(x + 1, false), ⟨by simp only; omega, by simp only; rw [nx3, es3, zN_step, ← hg3, show (true).toNat = 1 from rfl, he3]; rfl⟩, by simp only; omega, ?_⟩
                dsimp only
                rw [nx3, es3, show (true).toNat = 1 from rfl]
                refine TWk.fcanon env [some 0, some 1, some 2, some 3, some 4, some 5, some 7] (by rfl) ?_
                repeat' (first | exact trivial | refine ⟨rfl, ?_⟩)
            · have pc3 := put1_c s3 (j + 1 + x) (win w k f x y) 0 (win w k f x y) 0 rfl rfl so3 (by omega) (by omega) (by omega)
              dsimp only
              rw [← hs3]
              cases he3 : emits s3 (win w k f x y) 0
              · rw [he3] at pc3
                dsimp only [enP, Bool.not_true, Bool.not_false] at pc3
                repeat' (first
                  | ((with_reducible refine TOps.any ?_); refine TOps.callE env (by rfl) (by rfl) (by rfl) ?_ (ic) (by rfl) ?_)
                  | ((with_reducible refine TOps.any ?_); refine TOps.callE env (by rfl) (by rfl) (by rfl) ?_ (wc) (by rfl) ?_)
                  | ((with_reducible refine TOps.any ?_); refine TOps.callHE env [1, 2, 3, 4, 5] (pc3) (by rfl) (by rfl) (by rfl) (by rfl) (by rfl) (by rfl) (by repeat' (first | exact trivial | refine ⟨rfl, ?_⟩)) ?_)
                  | refine GZp_i_y ?_ ?_ ?_ ?_ ?_ ?_ ?_ ?_
                  | with_reducible first | exact BzZq.mk | refine Tw.ret ?_ | refine ImZq.i fun h => ?_ | refine IkZq.i fun hk => ?_)
                refine ⟨(x + 1, true), ⟨by simp only; omega, by simp only; rw [nx3, es3, zN_step, ← hg3, show (false).toNat = 0 from rfl, he3]; rfl⟩, by simp only; omega, ?_⟩
                dsimp only
                rw [nx3, es3, show (false).toNat = 0 from rfl]
                refine TWk.fcanon env [some 0, some 1, some 2, some 3, some 4, some 5] (by rfl) ?_
                repeat' (first | exact trivial | refine ⟨rfl, ?_⟩)
              · rw [he3] at pc3
                dsimp only [enP, Bool.not_true, Bool.not_false] at pc3
                repeat' (first
                  | ((with_reducible refine TOps.any ?_); refine TOps.callE env (by rfl) (by rfl) (by rfl) ?_ (ic) (by rfl) ?_)
                  | ((with_reducible refine TOps.any ?_); refine TOps.callE env (by rfl) (by rfl) (by rfl) ?_ (wc) (by rfl) ?_)
                  | ((with_reducible refine TOps.any ?_); refine TOps.callHE env [1, 2, 3, 4, 5] (pc3) (by rfl) (by rfl) (by rfl) (by rfl) (by rfl) (by rfl) (by repeat' (first | exact trivial | refine ⟨rfl, ?_⟩)) ?_)
                  | refine GZp_i_y ?_ ?_ ?_ ?_ ?_ ?_ ?_ ?_
                  | with_reducible first | exact BzZq.mk | refine Tw.ret ?_ | refine ImZq.i fun h => ?_ | refine IkZq.i fun hk => ?_)
                refine ⟨(x + 1, false), ⟨by simp only; omega, by simp only; rw [nx3, es3, zN_step, ← hg3, show (false).toNat = 0 from rfl, he3]; rfl⟩, by simp only; omega, ?_⟩
                dsimp only
                rw [nx3, es3, show (false).toNat = 0 from rfl]
                refine TWk.fcanon env [some 0, some 1, some 2, some 3, some 4, some 5, some 6] (by rfl) ?_
                repeat' (first | exact trivial | refine ⟨rfl, ?_⟩)
            · have pc3 := put1_c s3 (j + 1 + x) (win w k f x y) 1 (win w k f x y) 1 rfl rfl so3 (by omega) (by omega) (by omega)
              dsimp only
              rw [← hs3]
              cases he3 : emits s3 (win w k f x y) 1
              · rw [he3] at pc3
                dsimp only [enP, Bool.not_true, Bool.not_false] at pc3
                repeat' (first
                  | ((with_reducible refine TOps.any ?_); refine TOps.callE env (by rfl) (by rfl) (by rfl) ?_ (ic) (by rfl) ?_)
                  | ((with_reducible refine TOps.any ?_); refine TOps.callE env (by rfl) (by rfl) (by rfl) ?_ (wc) (by rfl) ?_)
                  | ((with_reducible refine TOps.any ?_); refine TOps.callHE env [1, 2, 3, 4, 5] (pc3) (by rfl) (by rfl) (by rfl) (by rfl) (by rfl) (by rfl) (by repeat' (first | exact trivial | refine ⟨rfl, ?_⟩)) ?_)
                  | refine GZp_i_y ?_ ?_ ?_ ?_ ?_ ?_ ?_ ?_
                  | with_reducible first | exact BzZq.mk | refine Tw.ret ?_ | refine ImZq.i fun h => ?_ | refine IkZq.i fun hk => ?_)
                refine ⟨(x + 1, true), ⟨by simp only; omega, by simp only; rw [nx3, es3, zN_step, ← hg3, show (true).toNat = 1 from rfl, he3]; rfl⟩, by simp only; omega, ?_⟩
                dsimp only
                rw [nx3, es3, show (true).toNat = 1 from rfl]
                refine TWk.fcanon env [some 0, some 1, some 2, some 3, some 4, some 5] (by rfl) ?_
                repeat' (first | exact trivial | refine ⟨rfl, ?_⟩)
              · rw [he3] at pc3
                dsimp only [enP, Bool.not_true, Bool.not_false] at pc3
                repeat' (first
                  | ((with_reducible refine TOps.any ?_); refine TOps.callE env (by rfl) (by rfl) (by rfl) ?_ (ic) (by rfl) ?_)
                  | ((with_reducible refine TOps.any ?_); refine TOps.callE env (by rfl) (by rfl) (by rfl) ?_ (wc) (by rfl) ?_)
                  | ((with_reducible refine TOps.any ?_); refine TOps.callHE env [1, 2, 3, 4, 5] (pc3) (by rfl) (by rfl) (by rfl) (by rfl) (by rfl) (by rfl) (by repeat' (first | exact trivial | refine ⟨rfl, ?_⟩)) ?_)
                  | refine GZp_i_y ?_ ?_ ?_ ?_ ?_ ?_ ?_ ?_
                  | with_reducible first | exact BzZq.mk | refine Tw.ret ?_ | refine ImZq.i fun h => ?_ | refine IkZq.i fun hk => ?_)
                refine ⟨(x + 1, false), ⟨by simp only; omega, by simp only; rw [nx3, es3, zN_step, ← hg3, show (true).toNat = 1 from rfl, he3]; rfl⟩, by simp only; omega, ?_⟩
                dsimp only
                rw [nx3, es3, show (true).toNat = 1 from rfl]
                refine TWk.fcanon env [some 0, some 1, some 2, some 3, some 4, some 5, some 6] (by rfl) ?_
                repeat' (first | exact trivial | refine ⟨rfl, ?_⟩)
          · obtain rfl : x = w := by omega
            have lx : (evs x k f (sameR x f) (y + 1)).length = j + 1 + x := by rw [ly]; omega
            cases g3
            · dsimp only
              repeat' (first
                | refine GZp_i_y ?_ ?_ ?_ ?_ ?_ ?_ ?_ ?_
                | with_reducible first | exact BzZq.mk | refine Tw.ret ?_ | refine ImZq.i fun h => ?_ | refine IkZq.i fun hk => ?_)
              refine ⟨(y + 1, false), ⟨hy2, by simp only; rw [lx]; exact hg3⟩, by simp only; omega, ?_⟩
              dsimp only
              rw [lx]
              refine TWk.fcanon env [some 0, some 1, some 2, some 3, some 4, some 5, some 6] (by rfl) ?_
              repeat' (first | exact trivial | refine ⟨rfl, ?_⟩)
            · dsimp only
              repeat' (first
                | refine GZp_i_y ?_ ?_ ?_ ?_ ?_ ?_ ?_ ?_
                | with_reducible first | exact BzZq.mk | refine Tw.ret ?_ | refine ImZq.i fun h => ?_ | refine IkZq.i fun hk => ?_)
              refine ⟨(y + 1, true), ⟨hy2, by simp only; rw [lx]; exact hg3⟩, by simp only; omega, ?_⟩
              dsimp only
              rw [lx]
              refine TWk.fcanon env [some 0, some 1, some 2, some 3, some 4, some 5] (by rfl) ?_
              repeat' (first | exact trivial | refine ⟨rfl, ?_⟩)
        · rw [he] at pc0
          dsimp only [enP, Bool.not_true, Bool.not_false] at pc0
          repeat' (first
            | exact d1
            | exact d2
            | exact d3
            | refine GZp_i_y ?_ ?_ ?_ ?_ ?_ ?_ ?_ ?_
            | with_reducible first | exact BzZq.mk | refine Tw.ret ?_ | refine ImZq.i fun h => ?_ | refine IkZq.i fun hk => ?_)
          rw [eR]
          repeat' (first
            | ((with_reducible refine TOps.any ?_); refine TOps.callV env (by rfl) (by rfl) (by rfl) (be2) ?_)
            | ((with_reducible refine TOps.any ?_); refine TOps.callHE env [1, 2, 3, 4, 5] (pc0) (by rfl) (by rfl) (by rfl) (by rfl) (by rfl) (by rfl) (by repeat' (first | exact trivial | refine ⟨rfl, ?_⟩)) ?_)
            | refine GZp_i_y ?_ ?_ ?_ ?_ ?_ ?_ ?_ ?_
            | with_reducible first | exact BzZq.mk | refine Tw.ret ?_ | refine ImZq.i fun h => ?_ | refine IkZq.i fun hk => ?_)
          refine Tw.loopK [0, 1, 2, 6, 8, 9, 24, 25, 56] (fun i : Nat × Bool => i.1 ≤ w ∧ i.2 = zN (E (j + 1 + i.1))) (fun i => w - i.1) (fun i => [(57, .int .i64 i.1)])
            (fun i => match i.2 with
              | true => [some (.cells [.int .i64 w, .int .i64 k, .lst Ey (bm w k f)]), some (.cells [.int .i64 0]), some (.cells [.ptr 3 0]), some (.cells [.sla 2 4 0 (E (j + 1 + i.1)).cs.length, .int .u32 (E (j + 1 + i.1)).w, .int .i64 (j + 1 + i.1 : Nat), .int .u32 (low (E (j + 1 + i.1)).V), .sla 1 5 0 (E (j + 1 + i.1)).n, .bool false]), some (.arr E2w (E (j + 1 + i.1)).cs), some (.arr Ey (top (E (j + 1 + i.1)).n (E (j + 1 + i.1)).V))]
              | false => [some (.cells [.int .i64 w, .int .i64 k, .lst Ey (bm w k f)]), some (.cells [.int .i64 0]), some (.cells [.ptr 3 0]), some (.cells [.sla 2 4 0 (E (j + 1 + i.1)).cs.length, .int .u32 (E (j + 1 + i.1)).w, .int .i64 (j + 1 + i.1 : Nat), .int .u32 (low (E (j + 1 + i.1)).V), .sla 1 6 0 (E (j + 1 + i.1)).n, .bool false]), some (.arr E2w (E (j + 1 + i.1)).cs), none, some (.arr Ey (top (E (j + 1 + i.1)).n (E (j + 1 + i.1)).V))])
            ⟨(0, false), ⟨by simp, by simp only; rw [Nat.add_zero, esj, zN_step, ← hg, show (false).toNat = 0 from rfl, he]; rfl⟩, ?_⟩ (fun i hi => ?_)
          · dsimp only
            rw [Nat.add_zero, esj, show (false).toNat = 0 from rfl]
            refine TWk.fcanon env [some 0, some 1, some 2, some 3, some 4, some 5, some 6] (by rfl) ?_
            repeat' (first | exact trivial | refine ⟨rfl, ?_⟩)
          obtain ⟨x, g3⟩ := i
          obtain ⟨hx, hg3⟩ := hi
          simp only at hx hg3
          rcases Nat.lt_or_ge x w with hx2 | hx2
          · have eb : L.getD (j + 1 + x) (0, 0) = (win w k f x y, (f x y).toNat) := by rw [hL, hj]; exact evs_bit hy2 hsm hx2
            have so3 := eo (j + 1 + x) (by omega)
            have ic := is_c w k (bm w k f) x y ok
            rw [px_bm hx2 hy2] at ic
            have wc := window_c w k (bm w k f) x y ok (by omega) (by omega)
            have wi : winV (px w k (bm w k f)) x y = (win w k f x y : Int) := win_int
            rw [wi] at wc
            have es3 := es (j + 1 + x)
            rw [show ctx L (j + 1 + x) = win w k f x y from congrArg Prod.fst eb, show bitA L (j + 1 + x) = (f x y).toNat from congrArg Prod.snd eb] at es3
            have wl := win_lt (w := w) (h := k) (f := f) (x := x) (y := y)
            obtain ⟨s3, hs3⟩ : ∃ s3, s3 = E (j + 1 + x) := ⟨_, rfl⟩
            rw [← hs3] at so3 hg3 es3
            have nx3 : j + 1 + (x + 1) = j + 1 + x + 1 := by omega
            cases g3 <;> cases hf : f x y <;> rw [hf] at ic es3
            · have pc3 := put1_c s3 (j + 1 + x) (win w k f x y) 0 (win w k f x y) 0 rfl rfl so3 (by omega) (by omega) (by omega)
              dsimp only
              rw [← hs3]
              cases he3 : emits s3 (win w k f x y) 0
              · rw [he3] at pc3
                dsimp only [enP, Bool.not_true, Bool.not_false] at pc3
                repeat' (first
                  | ((with_reducible refine TOps.any ?_); refine TOps.callE env (by rfl) (by rfl) (by rfl) ?_ (ic) (by rfl) ?_)
                  | ((with_reducible refine TOps.any ?_); refine TOps.callE env (by rfl) (by rfl) (by rfl) ?_ (wc) (by rfl) ?_)
                  | ((with_reducible refine TOps.any ?_); refine TOps.callHE env [1, 2, 3, 4, 6] (pc3) (by rfl) (by rfl) (by rfl) (by rfl) (by rfl) (by rfl) (by repeat' (first | exact trivial | refine ⟨rfl, ?_⟩)) ?_)
                  | refine GZp_i_y ?_ ?_ ?_ ?_ ?_ ?_ ?_ ?_
                  | with_reducible first | exact BzZq.mk | refine Tw.ret ?_ | refine ImZq.i fun h => ?_ | refine IkZq.i fun hk => ?_)
                refine ⟨(x + 1, false), ⟨by simp only; omega, by simp only; rw [nx3, es3, zN_step, ← hg3, show (false).toNat = 0 from rfl, he3]; rfl⟩, by simp only; omega, ?_⟩
                dsimp only
                rw [nx3, es3, show (false).toNat = 0 from rfl]
                refine TWk.fcanon env [some 0, some 1, some 2, some 3, some 4, some 5, some 6] (by rfl) ?_
                repeat' (first | exact trivial | refine ⟨rfl, ?_⟩)
              · rw [he3] at pc3
                dsimp only [enP, Bool.not_true, Bool.not_false] at pc3
                repeat' (first
                  | ((with_reducible refine TOps.any ?_); refine TOps.callE env (by rfl) (by rfl) (by rfl) ?_ (ic) (by rfl) ?_)
                  | ((with_reducible refine TOps.any ?_); refine TOps.callE env (by rfl) (by rfl) (by rfl) ?_ (wc) (by rfl) ?_)
                  | ((with_reducible refine TOps.any ?_); refine TOps.callHE env [1, 2, 3, 4, 6] (pc3) (by rfl) (by rfl) (by rfl) (by rfl) (by rfl) (by rfl) (by repeat' (first | exact trivial | refine ⟨rfl, ?_⟩)) ?_)
                  | refine GZp_i_y ?_ ?_ ?_ ?_ ?_ ?_ ?_ ?_
                  | with_reducible first | exact BzZq.mk | refine Tw.ret ?_ | refine ImZq.i fun h => ?_ | refine IkZq.i fun hk => ?_)
                refine ⟨(x + 1, false), ⟨by simp only; omega, by simp only; rw [nx3, es3, zN_step, ← hg3, show (false).toNat = 0 from rfl, he3]; rfl⟩, by simp only; omega, ?_⟩
                dsimp only
                rw [nx3, es3, show (false).toNat = 0 from rfl]
                refine TWk.fcanon env [some 0, some 1, some 2, some 3, some 4, some 5, some 7] (by rfl) ?_
                repeat' (first | exact trivial | refine ⟨rfl, ?_⟩)
            · have pc3 := put1_c s3 (j + 1 + x) (win w k f x y) 1 (win w k f x y) 1 rfl rfl so3 (by omega) (by omega) (by omega)
              dsimp only
              rw [← hs3]
              cases he3 : emits s3 (win w k f x y) 1
              · rw [he3] at pc3
                dsimp only [enP, Bool.not_true, Bool.not_false] at pc3
                repeat' (first
                  | ((with_reducible refine TOps.any ?_); refine TOps.callE env (by rfl) (by rfl) (by rfl) ?_ (ic) (by rfl) ?_)
                  | ((with_reducible refine TOps.any ?_); refine TOps.callE env (by rfl) (by rfl) (by rfl) ?_ (wc) (by rfl) ?_)
                  | ((with_reducible refine TOps.any ?_); refine TOps.callHE env [1, 2, 3, 4, 6] (pc3) (by rfl) (by rfl) (by rfl) (by rfl) (by rfl) (by rfl) (by repeat' (first | exact trivial | refine ⟨rfl, ?_⟩)) ?_)
                  | refine GZp_i_y ?_ ?_ ?_ ?_ ?_ ?_ ?_ ?_
                  | with_reducible first | exact BzZq.mk | refine Tw.ret ?_ | refine ImZq.i fun h => ?_ | refine IkZq.i fun hk => ?_)
                refine ⟨(x + 1, false), ⟨by simp only; omega, by simp only; rw [nx3, es3, zN_step, ← hg3, show (true).toNat = 1 from rfl, he3]; rfl⟩, by simp only; omega, ?_⟩
                dsimp only
                rw [nx3, es3, show (true).toNat = 1 from rfl]
                refine TWk.fcanon env [some 0, some 1, some 2, some 3, some 4, some 5, some 6] (by rfl) ?_
                repeat' (first | exact trivial | refine ⟨rfl, ?_⟩)
              · rw [he3] at pc3
                dsimp only [enP, Bool.not_true, Bool.not_false] at pc3
                repeat' (first
                  | ((with_reducible refine TOps.any ?_); refine TOps.callE env (by rfl) (by rfl) (by rfl) ?_ (ic) (by rfl) ?_)
                  | ((with_reducible refine TOps.any ?_); refine TOps.callE env (by rfl) (by rfl) (by rfl) ?_ (wc) (by rfl) ?_)
                  | ((with_reducible refine TOps.any ?_); refine TOps.callHE env [1, 2, 3, 4, 6] (pc3) (by rfl) (by rfl) (by rfl) (by rfl) (by rfl) (by rfl) (by repeat' (first | exact trivial | refine ⟨rfl, ?_⟩)) ?_)
                  | refine GZp_i_y ?_ ?_ ?_ ?_ ?_ ?_ ?_ ?_
                  | with_reducible first | exact BzZq.mk | refine Tw.ret ?_ | refine ImZq.i fun h => ?_ | refine IkZq.i fun hk => ?_)
                refine ⟨(x + 1, false), ⟨by simp only; omega, by simp only; rw [nx3, es3, zN_step, ← hg3, show (true).toNat = 1 from rfl, he3]; rfl⟩, by simp only; omega, ?_⟩
                dsimp only
                rw [nx3, es3, show (true).toNat = 1 from rfl]
                refine TWk.fcanon env [some 0, some 1, some 2, some 3, some 4, some 5, some 7] (by rfl) ?_
                repeat' (first | exact trivial | refine ⟨rfl, ?_⟩)
            · have pc3 := put1_c s3 (j + 1 + x) (win w k f x y) 0 (win w k f x y) 0 rfl rfl so3 (by omega) (by omega) (by omega)
              dsimp only
              rw [← hs3]
              cases he3 : emits s3 (win w k f x y) 0
              · rw [he3] at pc3
                dsimp only [enP, Bool.not_true, Bool.not_false] at pc3
                repeat' (first
                  | ((with_reducible refine TOps.any ?_); refine TOps.callE env (by rfl) (by rfl) (by rfl) ?_ (ic) (by rfl) ?_)
                  | ((with_reducible refine TOps.any ?_); refine TOps.callE env (by rfl) (by rfl) (by rfl) ?_ (wc) (by rfl) ?_)
                  | ((with_reducible refine TOps.any ?_); refine TOps.callHE env [1, 2, 3, 4, 5] (pc3) (by rfl) (by rfl) (by rfl) (by rfl) (by rfl) (by rfl) (by repeat' (first | exact trivial | refine ⟨rfl, ?_⟩)) ?_)
                  | refine GZp_i_y ?_ ?_ ?_ ?_ ?_ ?_ ?_ ?_
                  | with_reducible first | exact BzZq.mk | refine Tw.ret ?_ | refine ImZq.i fun h => ?_ | refine IkZq.i fun hk => ?_)
                refine ⟨(x + 1, true), ⟨by simp only; omega, by simp only; rw [nx3, es3, zN_step, ← hg3, show (false).toNat = 0 from rfl, he3]; rfl⟩, by simp only; omega, ?_⟩
                dsimp only
                rw [nx3, es3, show (false).toNat = 0 from rfl]
                refine TWk.fcanon env [some 0, some 1, some 2, some 3, some 4, some 5] (by rfl) ?_
                repeat' (first | exact trivial | refine ⟨rfl, ?_⟩)
              · rw [he3] at pc3
                dsimp only [enP, Bool.not_true, Bool.not_false] at pc3
                repeat' (first
                  | ((with_reducible refine TOps.any ?_); refine TOps.callE env (by rfl) (by rfl) (by rfl) ?_ (ic) (by rfl) ?_)
                  | ((with_reducible refine TOps.any ?_); refine TOps.callE env (by rfl) (by rfl) (by rfl) ?_ (wc) (by rfl) ?_)
                  | ((with_reducible refine TOps.any ?_); refine TOps.callHE env [1, 2, 3, 4, 5] (pc3) (by rfl) (by rfl) (by rfl) (by rfl) (by rfl) (by rfl) (by repeat' (first | exact trivial | refine ⟨rfl, ?_⟩)) ?_)
                  | refine GZp_i_y ?_ ?_ ?_ ?_ ?_ ?_ ?_ ?_
                  | with_reducible first | exact BzZq.mk | refine Tw.ret ?_ | refine ImZq.i fun h => ?_ | refine IkZq.i fun hk => ?_)
                refine ⟨(x + 1, false), ⟨by simp only; omega, by simp only; rw [nx3, es3, zN_step, ← hg3, show (false).toNat = 0 from rfl, he3]; rfl⟩, by simp only; omega, ?_⟩
                dsimp only
                rw [nx3, es3, show (false).toNat = 0 from rfl]
                refine TWk.fcanon env [some 0, some 1, some 2, some 3, some 4, some 5, some 6] (by rfl) ?_
                repeat' (first | exact trivial | refine ⟨rfl, ?_⟩)
            · have pc3 := put1_c s3 (j + 1 + x) (win w k f x y) 1 (win w k f x y) 1 rfl rfl so3 (by omega) (by omega) (by omega)
              dsimp only
              rw [← hs3]
              cases he3 : emits s3 (win w k f x y) 1
              · rw [he3] at pc3
                dsimp only [enP, Bool.not_true, Bool.not_false] at pc3
                repeat' (first
                  | ((with_reducible refine TOps.any ?_); refine TOps.callE env (by rfl) (by rfl) (by rfl) ?_ (ic) (by rfl) ?_)
                  | ((with_reducible refine TOps.any ?_); refine TOps.callE env (by rfl) (by rfl) (by rfl) ?_ (wc) (by rfl) ?_)
                  | ((with_reducible refine TOps.any ?_); refine TOps.callHE env [1, 2, 3, 4, 5] (pc3) (by rfl) (by rfl) (by rfl) (by rfl) (by rfl) (by rfl) (by repeat' (first | exact trivial | refine ⟨rfl, ?_⟩)) ?_)
                  | refine GZp_i_y ?_ ?_ ?_ ?_ ?_ ?_ ?_ ?_
                  | with_reducible first | exact BzZq.mk | refine Tw.ret ?_ | refine ImZq.i fun h => ?_ | refine IkZq.i fun hk => ?_)
                refine ⟨(x + 1, true), ⟨by simp only; omega, by simp only; rw [nx3, es3, zN_step, ← hg3, show (true).toNat = 1 from rfl, he3]; rfl⟩, by simp only; omega, ?_⟩
                dsimp only
                rw [nx3, es3, show (true).toNat = 1 from rfl]
                refine TWk.fcanon env [some 0, some 1, some 2, some 3, some 4, some 5] (by rfl) ?_
                repeat' (first | exact trivial | refine ⟨rfl, ?_⟩)
              · rw [he3] at pc3
                dsimp only [enP, Bool.not_true, Bool.not_false] at pc3
                repeat' (first
                  | ((with_reducible refine TOps.any ?_); refine TOps.callE env (by rfl) (by rfl) (by rfl) ?_ (ic) (by rfl) ?_)
                  | ((with_reducible refine TOps.any ?_); refine TOps.callE env (by rfl) (by rfl) (by rfl) ?_ (wc) (by rfl) ?_)
                  | ((with_reducible refine TOps.any ?_); refine TOps.callHE env [1, 2, 3, 4, 5] (pc3) (by rfl) (by rfl) (by rfl) (by rfl) (by rfl) (by rfl) (by repeat' (first | exact trivial | refine ⟨rfl, ?_⟩)) ?_)
                  | refine GZp_i_y ?_ ?_ ?_ ?_ ?_ ?_ ?_ ?_
                  | with_reducible first | exact BzZq.mk | refine Tw.ret ?_ | refine ImZq.i fun h => ?_ | refine IkZq.i fun hk => ?_)
                refine ⟨(x + 1, false), ⟨by simp only; omega, by simp only; rw [nx3, es3, zN_step, ← hg3, show (true).toNat = 1 from rfl, he3]; rfl⟩, by simp only; omega, ?_⟩
                dsimp only
                rw [nx3, es3, show (true).toNat = 1 from rfl]
                refine TWk.fcanon env [some 0, some 1, some 2, some 3, some 4, some 5, some 6] (by rfl) ?_
                repeat' (first | exact trivial | refine ⟨rfl, ?_⟩)
          · obtain rfl : x = w := by omega
            have lx : (evs x k f (sameR x f) (y + 1)).length = j + 1 + x := by rw [ly]; omega
            cases g3
            · dsimp only
              repeat' (first
                | refine GZp_i_y ?_ ?_ ?_ ?_ ?_ ?_ ?_ ?_
                | with_reducible first | exact BzZq.mk | refine Tw.ret ?_ | refine ImZq.i fun h => ?_ | refine IkZq.i fun hk => ?_)
              refine ⟨(y + 1, false), ⟨hy2, by simp only; rw [lx]; exact hg3⟩, by simp only; omega, ?_⟩
              dsimp only
              rw [lx]
              refine TWk.fcanon env [some 0, some 1, some 2, some 3, some 4, some 5, some 6] (by rfl) ?_
              repeat' (first | exact trivial | refine ⟨rfl, ?_⟩)
            · dsimp only
              repeat' (first
                | refine GZp_i_y ?_ ?_ ?_ ?_ ?_ ?_ ?_ ?_
                | with_reducible first | exact BzZq.mk | refine Tw.ret ?_ | refine ImZq.i fun h => ?_ | refine IkZq.i fun hk => ?_)
              refine ⟨(y + 1, true), ⟨hy2, by simp only; rw [lx]; exact hg3⟩, by simp only; omega, ?_⟩
              dsimp only
              rw [lx]
              refine TWk.fcanon env [some 0, some 1, some 2, some 3, some 4, some 5] (by rfl) ?_
              repeat' (first | exact trivial | refine ⟨rfl, ?_⟩)
    · rw [hsm] at be2 esj ly
      rw [if_pos rfl] at ly
      have pc1 := put1_c s j 2048 1 2048 1 rfl rfl so (by omega) (by omega) (by omega)
      have ly1 : (evs w k f (sameR w f) (y + 1)).length = j + 1 := by rw [ly]
      cases g
      · dsimp only
        rw [← hj, ← hs]
        cases he : emits s 2048 1
        · rw [he] at pc1
          dsimp only [enP, Bool.not_true, Bool.not_false] at pc1
          repeat' (first
            | exact d1
            | exact d2
            | exact d3
            | refine GZp_i_y ?_ ?_ ?_ ?_ ?_ ?_ ?_ ?_
            | with_reducible first | exact BzZq.mk | refine Tw.ret ?_ | refine ImZq.i fun h => ?_ | refine IkZq.i fun hk => ?_)
          rw [eR]
          repeat' (first
            | ((with_reducible refine TOps.any ?_); refine TOps.callV env (by rfl) (by rfl) (by rfl) (be2) ?_)
            | ((with_reducible refine TOps.any ?_); refine TOps.callHE env [1, 2, 3, 4, 6] (pc1) (by rfl) (by rfl) (by rfl) (by rfl) (by rfl) (by rfl) (by repeat' (first | exact trivial | refine ⟨rfl, ?_⟩)) ?_)
            | refine GZp_i_y ?_ ?_ ?_ ?_ ?_ ?_ ?_ ?_
            | with_reducible first | exact BzZq.mk | refine Tw.ret ?_ | refine ImZq.i fun h => ?_ | refine IkZq.i fun hk => ?_)
          refine ⟨(y + 1, false), ⟨hy2, by simp only; rw [ly1, esj, zN_step, ← hg, show (true).toNat = 1 from rfl, he]; rfl⟩, by simp only; omega, ?_⟩
          dsimp only
          rw [ly1, esj, show (true).toNat = 1 from rfl]
          refine TWk.fcanon env [some 0, some 1, some 2, some 3, some 4, some 5, some 6] (by rfl) ?_
          repeat' (first | exact trivial | refine ⟨rfl, ?_⟩)
        · rw [he] at pc1
          dsimp only [enP, Bool.not_true, Bool.not_false] at pc1
          repeat' (first
            | exact d1
            | exact d2
            | exact d3
            | refine GZp_i_y ?_ ?_ ?_ ?_ ?_ ?_ ?_ ?_
            | with_reducible first | exact BzZq.mk | refine Tw.ret ?_ | refine ImZq.i fun h => ?_ | refine IkZq.i fun hk => ?_)
          rw [eR]
          repeat' (first
            | ((with_reducible refine TOps.any ?_); refine TOps.callV env (by rfl) (by rfl) (by rfl) (be2) ?_)
            | ((with_reducible refine TOps.any ?_); refine TOps.callHE env [1, 2, 3, 4, 6] (pc1) (by rfl) (by rfl) (by rfl) (by rfl) (by rfl) (by rfl) (by repeat' (first | exact trivial | refine ⟨rfl, ?_⟩)) ?_)
            | refine GZp_i_y ?_ ?_ ?_ ?_ ?_ ?_ ?_ ?_
            | with_reducible first | exact BzZq.mk | refine Tw.ret ?_ | refine ImZq.i fun h => ?_ | refine IkZq.i fun hk => ?_)
          refine ⟨(y + 1, false), ⟨hy2, by simp only; rw [ly1, esj, zN_step, ← hg, show (true).toNat = 1 from rfl, he]; rfl⟩, by simp only; omega, ?_⟩
          dsimp only
          rw [ly1, esj, show (true).toNat = 1 from rfl]
          refine TWk.fcanon env [some 0, some 1, some 2, some 3, some 4, some 5, some 7] (by rfl) ?_
          repeat' (first | exact trivial | refine ⟨rfl, ?_⟩)
      · dsimp only
        rw [← hj, ← hs]
        cases he : emits s 2048 1
        · rw [he] at pc1
          dsimp only [enP, Bool.not_true, Bool.not_false] at pc1
          repeat' (first
            | exact d1
            | exact d2
            | exact d3
            | refine GZp_i_y ?_ ?_ ?_ ?_ ?_ ?_ ?_ ?_
            | with_reducible first | exact BzZq.mk | refine Tw.ret ?_ | refine ImZq.i fun h => ?_ | refine IkZq.i fun hk => ?_)
          rw [eR]
          repeat' (first
            | ((with_reducible refine TOps.any ?_); refine TOps.callV env (by rfl) (by rfl) (by rfl) (be2) ?_)
            | ((with_reducible refine TOps.any ?_); refine TOps.callHE env [1, 2, 3, 4, 5] (pc1) (by rfl) (by rfl) (by rfl) (by rfl) (by rfl) (by rfl) (by repeat' (first | exact trivial | refine ⟨rfl, ?_⟩)) ?_)
            | refine GZp_i_y ?_ ?_ ?_ ?_ ?_ ?_ ?_ ?_
            | with_reducible first | exact BzZq.mk | refine Tw.ret ?_ | refine ImZq.i fun h => ?_ | refine IkZq.i fun hk => ?_)
          refine ⟨(y + 1, true), ⟨hy2, by simp only; rw [ly1, esj, zN_step, ← hg, show (true).toNat = 1 from rfl, he]; rfl⟩, by simp only; omega, ?_⟩
          dsimp only
          rw [ly1, esj, show (true).toNat = 1 from rfl]
          refine TWk.fcanon env [some 0, some 1, some 2, some 3, some 4, some 5] (by rfl) ?_
          repeat' (first | exact trivial | refine ⟨rfl, ?_⟩)
        · rw [he] at pc1
          dsimp only [enP, Bool.not_true, Bool.not_false] at pc1
          repeat' (first
            | exact d1
            | exact d2
            | exact d3
            | refine GZp_i_y ?_ ?_ ?_ ?_ ?_ ?_ ?_ ?_
            | with_reducible first | exact BzZq.mk | refine Tw.ret ?_ | refine ImZq.i fun h => ?_ | refine IkZq.i fun hk => ?_)
          rw [eR]
          repeat' (first
            | ((with_reducible refine TOps.any ?_); refine TOps.callV env (by rfl) (by rfl) (by rfl) (be2) ?_)
            | ((with_reducible refine TOps.any ?_); refine TOps.callHE env [1, 2, 3, 4, 5] (pc1) (by rfl) (by rfl) (by rfl) (by rfl) (by rfl) (by rfl) (by repeat' (first | exact trivial | refine ⟨rfl, ?_⟩)) ?_)
            | refine GZp_i_y ?_ ?_ ?_ ?_ ?_ ?_ ?_ ?_
            | with_reducible first | exact BzZq.mk | refine Tw.ret ?_ | refine ImZq.i fun h => ?_ | refine IkZq.i fun hk => ?_)
          refine ⟨(y + 1, false), ⟨hy2, by simp only; rw [ly1, esj, zN_step, ← hg, show (true).toNat = 1 from rfl, he]; rfl⟩, by simp only; omega, ?_⟩
          dsimp only
          rw [ly1, esj, show (true).toNat = 1 from rfl]
          refine TWk.fcanon env [some 0, some 1, some 2, some 3, some 4, some 5, some 6] (by rfl) ?_
          repeat' (first | exact trivial | refine ⟨rfl, ?_⟩)
  · obtain rfl : y = k := by omega
    have ll : L.length = j := by rw [hL, hj]
    rw [← ll] at hg
    cases g
    · dsimp only
      rw [← hj, ← ll]
      repeat' (first
        | refine GZp_i_y ?_ ?_ ?_ ?_ ?_ ?_ ?_ ?_
        | with_reducible first | exact BzZq.mk | refine Tw.ret ?_ | refine ImZq.i fun h => ?_ | refine IkZq.i fun hk => ?_)
      rw [← hg]
      exact ⟨rfl, rfl⟩
    · dsimp only
      rw [← hj, ← ll]
      repeat' (first
        | refine GZp_i_y ?_ ?_ ?_ ?_ ?_ ?_ ?_ ?_
        | with_reducible first | exact BzZq.mk | refine Tw.ret ?_ | refine ImZq.i fun h => ?_ | refine IkZq.i fun hk => ?_)
      rw [← hg]
      exact ⟨rfl, rfl⟩
end Go.Proofs.Ytjedljdfkoagbaa
