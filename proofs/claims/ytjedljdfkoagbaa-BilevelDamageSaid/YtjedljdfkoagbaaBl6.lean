/- Compressed bitmaps: the rows come from the decoder. -/
import Derived.Test.YtjedljdfkoagbaaBl5
import Derived.Test.YtjedljdfkoagbaaGo
namespace Go.Proofs.Ytjedljdfkoagbaa
open Go Go.Lite
set_option linter.unusedVariables false
set_option linter.unusedSimpArgs false
set_option maxRecDepth 100000
set_option maxHeartbeats 4000000
-- @simp rdi rdy

theorem passD (w k : Nat) (f : Nat → Nat → Bool) (sm : Nat → Bool) (q : List Int) (hw : 1 ≤ w ∧ w ≤ 1024) (hk : 1 ≤ k ∧ k ≤ 64) (L : List (Nat × Nat)) (hL : L = evs w k f sm k)
    (hs : ∀ y, y < k → sm y = true → ∀ x, x < w → f x y = abv f y x) (hH : ∀ j, j < L.length → dbit (dRun 2049 q (ctx L) j) (ctx L j) = bitA L j)
    (hq : q.length ≤ 2097152) (hqb : ∀ i, i < q.length → 0 ≤ q.getD i 0 ∧ q.getD i 0 ≤ 255) :
    TC R Try.prog bilevel_pass_f [.ptr 0 0, .fn bilevel_Unpack_1_f [.ptr 3 0, .ptr 2 0], .bool true] [some (.cells [.int .i64 w, .int .i64 k, .sla 1 1 0 (st w * k)]), some (.arr Ey (bm w k (upR f 0))), some (.cells [.int .i64 0]), some (.cells [.ptr 4 0]), some (.cells [.sla 2 5 0 (dRun 2049 q (ctx L) 0).cs.length, .int .u32 (dRun 2049 q (ctx L) 0).w, .int .i64 (0 : Nat), .int .u32 (dRun 2049 q (ctx L) 0).co, .sla 1 6 (min (dRun 2049 q (ctx L) 0).p q.length) (q.length - (dRun 2049 q (ctx L) 0).p)]), some (.arr E2w (dRun 2049 q (ctx L) 0).cs), some (.arr Ey q)]
      (fun v X => v = .tup [] ∧ X = [some (.cells [.int .i64 w, .int .i64 k, .sla 1 1 0 (st w * k)]), some (.arr Ey (bm w k (upR f k))), some (.cells [.int .i64 0]), some (.cells [.ptr 4 0]), some (.cells [.sla 2 5 0 (dRun 2049 q (ctx L) L.length).cs.length, .int .u32 (dRun 2049 q (ctx L) L.length).w, .int .i64 (L.length : Nat), .int .u32 (dRun 2049 q (ctx L) L.length).co, .sla 1 6 (min (dRun 2049 q (ctx L) L.length).p q.length) (q.length - (dRun 2049 q (ctx L) L.length).p)]), some (.arr E2w (dRun 2049 q (ctx L) L.length).cs), some (.arr Ey q)]) := by
  have lb : L.length ≤ 65600 := by
    have h1 := evs_le (w := w) (h := k) (f := f) (sm := sm) (y := k)
    have h2 : k * (w + 1) ≤ 64 * 1025 := Nat.mul_le_mul (by omega) (by omega)
    rw [hL]; omega
  have al : ∀ j, j < L.length → ctx L j < 2049 ∧ bitA L j ≤ 1 := fun j hj => by rw [hL] at hj ⊢; exact evs_all hj
  have es : ∀ j, dRun 2049 q (ctx L) (j + 1) = dstep q (dRun 2049 q (ctx L) j) (ctx L j) := fun j => rfl
  have eo : ∀ j, j ≤ L.length → DSOk 2049 j (dRun 2049 q (ctx L) j) := fun j hj => dRun_ok hqb fun i hi => (al i (by omega)).1
  generalize hE : dRun 2049 q (ctx L) = E at *
  have q1 : quo ((w : Int) + 7) 8 = (st w : Int) := by rw [quo_nn (by omega)]; unfold st; omega
  have sb : 1 ≤ st w ∧ st w ≤ 128 := by unfold st; omega
  refine tc env bilevel_pass_s (by rfl) ?_
  dsimp only [bilevel_pass_c]
  repeat' (first
    | refine GZy_i_y q1 ?_ ?_ ?_ ?_ ?_ ?_ ?_ ?_
    | with_reducible first | exact BzZq.mk | refine Tw.ret ?_ | refine ImZq.i fun h => ?_ | refine IkZq.i fun hk => ?_)
  rw [q1, Int.toNat_natCast]
  refine Tw.loopK [0, 1, 2, 6, 24] (fun y : Nat => y ≤ k) (fun y => k - y) (fun y => [(25, .int .i64 y), (7, match y with | 0 => .sla 1 7 0 (st w) | u + 1 => .sla 1 1 (u * st w) (st w))])
    (fun y => match y with
      | 0 => [some (.cells [.int .i64 w, .int .i64 k, .sla 1 1 0 (st w * k)]), some (.arr Ey (bm w k (upR f 0))), some (.cells [.int .i64 0]), some (.cells [.ptr 4 0]), some (.cells [.sla 2 5 0 (E (evs w k f sm 0).length).cs.length, .int .u32 (E (evs w k f sm 0).length).w, .int .i64 ((evs w k f sm 0).length : Nat), .int .u32 (E (evs w k f sm 0).length).co, .sla 1 6 (min (E (evs w k f sm 0).length).p q.length) (q.length - (E (evs w k f sm 0).length).p)]), some (.arr E2w (E (evs w k f sm 0).length).cs), some (.arr Ey q), some (.arr Ey (rowB w fun _ => false))]
      | u + 1 => [some (.cells [.int .i64 w, .int .i64 k, .sla 1 1 0 (st w * k)]), some (.arr Ey (bm w k (upR f (u + 1)))), some (.cells [.int .i64 0]), some (.cells [.ptr 4 0]), some (.cells [.sla 2 5 0 (E (evs w k f sm (u + 1)).length).cs.length, .int .u32 (E (evs w k f sm (u + 1)).length).w, .int .i64 ((evs w k f sm (u + 1)).length : Nat), .int .u32 (E (evs w k f sm (u + 1)).length).co, .sla 1 6 (min (E (evs w k f sm (u + 1)).length).p q.length) (q.length - (E (evs w k f sm (u + 1)).length).p)]), some (.arr E2w (E (evs w k f sm (u + 1)).length).cs), some (.arr Ey q)])
    ⟨0, by omega, TWk.fcanon env [some 0, some 1, some 2, some 3, some 4, some 5, some 6, some 7] (by rfl) ?_⟩ (fun y hy => ?_)
  · repeat' (first | exact trivial | refine ⟨rfl, ?_⟩ | refine ⟨rowB_zero, ?_⟩)
  have rb : ∀ g : Nat → Bool, ∀ i, i < (rowB w g).length → 0 ≤ (rowB w g).getD i 0 ∧ (rowB w g).getD i 0 ≤ 255 := fun g i hi => rowB_bd hi
  rcases Nat.lt_or_ge y k with hy2 | hy2
  · have ye : (y : Int) * (st w : Int) = ((y * st w : Nat) : Int) := by simp
    have yf : ((y : Int) + 1) * (st w : Int) = ((y * st w + st w : Nat) : Int) := by rw [show (y : Int) + 1 = ((y + 1 : Nat) : Int) by omega, ← Int.natCast_mul, Nat.add_mul, Nat.one_mul]
    have yb : y * st w + st w ≤ k * st w := by
      have := Nat.mul_le_mul_right (st w) (show y + 1 ≤ k by omega)
      rw [Nat.add_mul, Nat.one_mul] at this; exact this
    have kb : k * st w ≤ 64 * 128 := Nat.mul_le_mul (by omega) (by omega)
    have bl : (bm w k (upR f y)).length = k * st w := by rw [bm_len, Nat.mul_comm]
    have d1 : -9223372036854775808 ≤ (y : Int) * (st w : Int) ∧ (y : Int) * (st w : Int) ≤ 9223372036854775807 := by omega
    have d2 : -9223372036854775808 ≤ ((y : Int) + 1) * (st w : Int) ∧ ((y : Int) + 1) * (st w : Int) ≤ 9223372036854775807 := by omega
    have d3 : 0 ≤ (y : Int) * (st w : Int) ∧ (y : Int) * (st w : Int) ≤ ((y : Int) + 1) * (st w : Int) ∧ ((y : Int) + 1) * (st w : Int) ≤ ((st w * k : Nat) : Int) := by rw [Nat.mul_comm (st w) k]; omega
    obtain ⟨j, hj⟩ : ∃ j, j = (evs w k f sm y).length := ⟨_, rfl⟩
    have ej : L.getD j (0, 0) = (2048, (sm y).toNat) := by rw [hL, hj]; exact evs_same hy2
    have hw0 : 0 < w := by omega
    have eO : ((y : Int) * (st w : Int)).toNat + 0 = y * st w := by rw [ye, Int.toNat_natCast, Nat.add_zero]
    have eN : (((y : Int) + 1) * (st w : Int)).toNat - ((y : Int) * (st w : Int)).toNat = st w := by rw [ye, yf, Int.toNat_natCast, Int.toNat_natCast, Nat.add_sub_cancel_left]
    have cj : ctx L j = 2048 := congrArg Prod.fst ej
    have bj : bitA L j = (sm y).toNat := congrArg Prod.snd ej
    have hjl : j < L.length := by
      rw [hL, hj]
      obtain ⟨M, hM⟩ := evs_mono (w := w) (h := k) (f := f) (sm := sm) (show y + 1 ≤ k by omega)
      rw [hM, List.length_append]
      show _ < (evs w k f sm y ++ rowE w k f sm y).length + _
      rw [List.length_append, rowE_len]; omega
    have esj := es j
    have dbj := hH j hjl
    have so := eo j (by omega)
    rw [cj] at esj dbj
    rw [bj] at dbj
    have ly : (evs w k f sm (y + 1)).length = j + (1 + (if sm y = true then 0 else w)) := by
      show (evs w k f sm y ++ rowE w k f sm y).length = _
      rw [List.length_append, rowE_len, ← hj]
    have cr := cut_row (f := upR f y) hy2 hw0
    have cA : ∀ i, i < (cut (bm w k (upR f y)) (y * st w) (st w)).length → 0 ≤ (cut (bm w k (upR f y)) (y * st w) (st w)).getD i 0 ∧ (cut (bm w k (upR f y)) (y * st w) (st w)).getD i 0 ≤ 255 := by rw [cr]; exact rb _
    have hcp := fun h => copy_row (f := f) hw0 hy2 (hs y hy2 h)
    obtain ⟨s, hs'⟩ : ∃ s, s = E j := ⟨_, rfl⟩
    rw [← hs'] at so esj dbj
    cases hsm : sm y
    · rw [hsm] at dbj ly
      rw [if_neg (by simp)] at ly
      have lyl : j + (1 + w) ≤ L.length := by
        rw [← ly, hL]
        obtain ⟨M, hM⟩ := evs_mono (w := w) (h := k) (f := f) (sm := sm) (show y + 1 ≤ k by omega)
        rw [hM, List.length_append]; omega
      have lx : (evs w k f sm (y + 1)).length = j + 1 + w := by rw [ly]; omega
      have u0 : bm w k (upX f y 0) = bm w k (upR f y) := bm_congr fun x v _ _ => upX_zero
      have uw : bm w k (upX f y w) = bm w k (upR f (y + 1)) := bm_congr fun x v hx _ => upX_all hx
      have eb := fun x (hx : x < w) => evs_bit (w := w) (h := k) (f := f) (sm := sm) (z := k) hy2 hsm hx
      rcases y with _ | u
      · have z1 : 0 + st w ≤ (rowB w fun _ => false).length := by rw [rowB_len]; omega
        have z2 : 0 * st w + st w ≤ (bm w k (upR f 0)).length := by rw [bl]; omega
        obtain ⟨bb, be⟩ : ∃ bb, TC R Try.prog bytes_Equal_f [.lst Ey (cut (bm w k (upR f (0))) ((0) * st w) (st w)), .lst Ey (cut (rowB w fun _ => false) 0 (st w))] [] (fun v X => v = .bool bb ∧ X = []) := ⟨_, bequal_c _ _ cA (by rw [cut_all rowB_len.symm]; exact rb _)⟩
        have pc := get1_c s j 2048 2048 (if bb = true then 1 else 0) 0 rfl (by rw [dbj]; rfl) q so (by omega) (by omega) hq hqb
        dsimp only
        rw [← hj, ← hs']
        repeat' (first
          | exact d1
          | exact d2
          | exact d3
          | refine GZp_i_y ?_ ?_ ?_ ?_ ?_ ?_ ?_ ?_
          | with_reducible first | exact BzZq.mk | refine Tw.ret ?_ | refine ImZq.i fun h => ?_ | refine IkZq.i fun hk => ?_)
        rw [eO, eN]
        cases bb
        all_goals
          repeat' (first
            | ((with_reducible refine TOps.any ?_); refine TOps.callE env (by rfl) (by rfl) ((fsnap_eq _ _ _).trans (by rfl)) (show Conj [_, _] from ?_) (be) (by rfl) ?_)
            | ((with_reducible refine TOps.any ?_); refine TOps.callHE env [3, 2, 4, 5, 6] (pc) (by rfl) (by rfl) (by rfl) (by rfl) (by rfl) (by rfl) (by repeat' (first | exact trivial | refine ⟨rfl, ?_⟩)) ?_)
            | exact z1
            | exact z2
            | exact ⟨z2, z1⟩
            | exact ⟨z1, z2⟩
            | refine GZp_i_y ?_ ?_ ?_ ?_ ?_ ?_ ?_ ?_
            | with_reducible first | exact BzZq.mk | refine Tw.ret ?_ | refine ImZq.i fun h => ?_ | refine IkZq.i fun hk => ?_)
          refine Tw.loopK [0, 1, 2, 6, 8, 9, 24, 25, 56] (fun x : Nat => x ≤ w) (fun x => w - x) (fun x => [(57, .int .i64 x)])
            (fun x => [some (.cells [.int .i64 w, .int .i64 k, .sla 1 1 0 (st w * k)]), some (.arr Ey (bm w k (upX f (0) x))), some (.cells [.int .i64 0]), some (.cells [.ptr 4 0]), some (.cells [.sla 2 5 0 (E (j + 1 + x)).cs.length, .int .u32 (E (j + 1 + x)).w, .int .i64 (j + 1 + x : Nat), .int .u32 (E (j + 1 + x)).co, .sla 1 6 (min (E (j + 1 + x)).p q.length) (q.length - (E (j + 1 + x)).p)]), some (.arr E2w (E (j + 1 + x)).cs), some (.arr Ey q)]) ⟨0, by omega, ?_⟩ (fun x hx => ?_)
          · rw [Nat.add_zero, esj, u0]
            refine TWk.fcanon env [some 0, some 1, some 2, some 3, some 4, some 5, some 6] (by rfl) ?_
            repeat' (first | exact trivial | refine ⟨rfl, ?_⟩)
          rcases Nat.lt_or_ge x w with hx2 | hx2
          · have ebx := eb x hx2
            rw [← hL, ← hj] at ebx
            have okx := bm_ok (f := upX f (0) x) hw (show 1 ≤ k ∧ k ≤ 1024 by omega)
            have so3 := eo (j + 1 + x) (by omega)
            have ic := is_c w k (bm w k (upX f (0) x)) x (0 : Nat) okx
            rw [px_bm hx2 hy2, upX_self] at ic
            have wc := window_c w k (bm w k (upX f (0) x)) x (0) okx (by omega) (by omega)
            have wi : winV (px w k (bm w k (upX f (0) x))) x (0 : Nat) = (win w k f x (0) : Int) := by rw [← win_up (w := w) (k := k) (f := f)]; exact win_int
            rw [wi] at wc
            have ct : cut (bm w k (upX f (0) x)) 0 (st w * k) = bm w k (upX f (0) x) := cut_all bm_len.symm
            rw [← ct] at ic wc
            have z5 : 0 + st w * k ≤ (bm w k (upX f (0) x)).length := by rw [bm_len]; omega
            have es3 := es (j + 1 + x)
            have db3 := hH (j + 1 + x) (by omega)
            rw [show ctx L (j + 1 + x) = win w k f x (0) from congrArg Prod.fst ebx] at es3 db3
            rw [show bitA L (j + 1 + x) = (f x (0)).toNat from congrArg Prod.snd ebx] at db3
            have wl := win_lt (w := w) (h := k) (f := f) (x := x) (y := 0)
            have nx3 : j + 1 + (x + 1) = j + 1 + x + 1 := by omega
            obtain ⟨s3, hs3⟩ : ∃ s3, s3 = E (j + 1 + x) := ⟨_, rfl⟩
            rw [← hs3] at so3 es3 db3 ⊢
            cases hf : f x (0)
            · have pc3 := get1_c s3 (j + 1 + x) (win w k f x (0)) (win w k f x (0)) 0 0 rfl (by rw [db3, hf]; rfl) q so3 (by omega) (by omega) hq hqb
              have un : bm w k (upX f (0) (x + 1)) = bm w k (upX f (0) x) := bm_congr fun i v _ _ => upX_no hf i v
              repeat' (first
                | exact z5
                | ((with_reducible refine TOps.any ?_); refine TOps.callE env (by rfl) (by rfl) (by rfl) ?_ (ic) (by rfl) ?_)
                | ((with_reducible refine TOps.any ?_); refine TOps.callE env (by rfl) (by rfl) (by rfl) ?_ (wc) (by rfl) ?_)
                | ((with_reducible refine TOps.any ?_); refine TOps.callHE env [3, 2, 4, 5, 6] (pc3) (by rfl) (by rfl) (by rfl) (by rfl) (by rfl) (by rfl) (by repeat' (first | exact trivial | refine ⟨rfl, ?_⟩)) ?_)
                | refine GZp_i_y ?_ ?_ ?_ ?_ ?_ ?_ ?_ ?_
                | with_reducible first | exact BzZq.mk | refine Tw.ret ?_ | refine ImZq.i fun h => ?_ | refine IkZq.i fun hk => ?_)
              refine ⟨x + 1, by omega, by omega, ?_⟩
              rw [nx3, es3, un]
              refine TWk.fcanon env [some 0, some 1, some 2, some 3, some 4, some 5, some 6] (by rfl) ?_
              repeat' (first | exact trivial | refine ⟨rfl, ?_⟩)
            · have pc3 := get1_c s3 (j + 1 + x) (win w k f x (0)) (win w k f x (0)) 0 1 rfl (by rw [db3, hf]; rfl) q so3 (by omega) (by omega) hq hqb
              have hbd := bm_bd (w := w) (h := k) (f := upX f (0) x) (at8_lt hx2 hy2)
              have hmk := bm_mark (f := upX f (0) x) hx2 hy2
              rw [bm_congr fun i v _ _ => upX_yes hf i v] at hmk
              have mc := mark_c w k (bm w k (upX f (0) x)) x (0) hw (show 1 ≤ k ∧ k ≤ 1024 by omega) bm_len hbd hx2 hy2
              rw [hmk] at mc
              repeat' (first
                | exact z5
                | ((with_reducible refine TOps.any ?_); refine TOps.callE env (by rfl) (by rfl) (by rfl) ?_ (ic) (by rfl) ?_)
                | ((with_reducible refine TOps.any ?_); refine TOps.callE env (by rfl) (by rfl) (by rfl) ?_ (wc) (by rfl) ?_)
                | ((with_reducible refine TOps.any ?_); refine TOps.callHE env [3, 2, 4, 5, 6] (pc3) (by rfl) (by rfl) (by rfl) (by rfl) (by rfl) (by rfl) (by repeat' (first | exact trivial | refine ⟨rfl, ?_⟩)) ?_)
                | ((with_reducible refine TOps.any ?_); refine TOps.callHE env [0, 1] (mc) (by rfl) (by rfl) (by rfl) (by rfl) (by rfl) (by rfl) (by repeat' (first | exact trivial | refine ⟨rfl, ?_⟩)) ?_)
                | refine GZp_i_y ?_ ?_ ?_ ?_ ?_ ?_ ?_ ?_
                | with_reducible first | exact BzZq.mk | refine Tw.ret ?_ | refine ImZq.i fun h => ?_ | refine IkZq.i fun hk => ?_)
              refine ⟨x + 1, by omega, by omega, ?_⟩
              rw [nx3, es3]
              refine TWk.fcanon env [some 0, some 1, some 2, some 3, some 4, some 5, some 6] (by rfl) ?_
              repeat' (first | exact trivial | refine ⟨rfl, ?_⟩)
          · obtain rfl : x = w := by omega
            repeat' (first
              | refine GZp_i_y ?_ ?_ ?_ ?_ ?_ ?_ ?_ ?_
              | with_reducible first | exact BzZq.mk | refine Tw.ret ?_ | refine ImZq.i fun h => ?_ | refine IkZq.i fun hk => ?_)
            refine ⟨0 + 1, hy2, by omega, ?_⟩
            dsimp only
            rw [lx, uw]
            refine TWk.fcanon env [some 0, some 1, some 2, some 3, some 4, some 5, some 6] (by rfl) ?_
            repeat' (first | exact trivial | refine ⟨rfl, ?_⟩)
      · have z1 : u * st w + st w ≤ (bm w k (upR f (u + 1))).length := by rw [bl]; rw [Nat.add_mul, Nat.one_mul] at yb; omega
        have z2 : (u + 1) * st w + st w ≤ (bm w k (upR f (u + 1))).length := by rw [bl]; omega
        obtain ⟨bb, be⟩ : ∃ bb, TC R Try.prog bytes_Equal_f [.lst Ey (cut (bm w k (upR f (u + 1))) ((u + 1) * st w) (st w)), .lst Ey (cut (bm w k (upR f (u + 1))) (u * st w) (st w))] [] (fun v X => v = .bool bb ∧ X = []) := ⟨_, bequal_c _ _ cA (by rw [cut_row (f := upR f (u + 1)) (show u < k by omega) hw0]; exact rb _)⟩
        have pc := get1_c s j 2048 2048 (if bb = true then 1 else 0) 0 rfl (by rw [dbj]; rfl) q so (by omega) (by omega) hq hqb
        dsimp only
        rw [← hj, ← hs']
        repeat' (first
          | exact d1
          | exact d2
          | exact d3
          | refine GZp_i_y ?_ ?_ ?_ ?_ ?_ ?_ ?_ ?_
          | with_reducible first | exact BzZq.mk | refine Tw.ret ?_ | refine ImZq.i fun h => ?_ | refine IkZq.i fun hk => ?_)
        rw [eO, eN]
        cases bb
        all_goals
          repeat' (first
            | ((with_reducible refine TOps.any ?_); refine TOps.callE env (by rfl) (by rfl) ((fsnap_eq _ _ _).trans (by rfl)) (show Conj [_, _] from ?_) (be) (by rfl) ?_)
            | ((with_reducible refine TOps.any ?_); refine TOps.callHE env [3, 2, 4, 5, 6] (pc) (by rfl) (by rfl) (by rfl) (by rfl) (by rfl) (by rfl) (by repeat' (first | exact trivial | refine ⟨rfl, ?_⟩)) ?_)
            | exact z1
            | exact z2
            | exact ⟨z2, z1⟩
            | exact ⟨z1, z2⟩
            | refine GZp_i_y ?_ ?_ ?_ ?_ ?_ ?_ ?_ ?_
            | with_reducible first | exact BzZq.mk | refine Tw.ret ?_ | refine ImZq.i fun h => ?_ | refine IkZq.i fun hk => ?_)
          refine Tw.loopK [0, 1, 2, 6, 8, 9, 24, 25, 56] (fun x : Nat => x ≤ w) (fun x => w - x) (fun x => [(57, .int .i64 x)])
            (fun x => [some (.cells [.int .i64 w, .int .i64 k, .sla 1 1 0 (st w * k)]), some (.arr Ey (bm w k (upX f (u + 1) x))), some (.cells [.int .i64 0]), some (.cells [.ptr 4 0]), some (.cells [.sla 2 5 0 (E (j + 1 + x)).cs.length, .int .u32 (E (j + 1 + x)).w, .int .i64 (j + 1 + x : Nat), .int .u32 (E (j + 1 + x)).co, .sla 1 6 (min (E (j + 1 + x)).p q.length) (q.length - (E (j + 1 + x)).p)]), some (.arr E2w (E (j + 1 + x)).cs), some (.arr Ey q)]) ⟨0, by omega, ?_⟩ (fun x hx => ?_)
          · rw [Nat.add_zero, esj, u0]
            refine TWk.fcanon env [some 0, some 1, some 2, some 3, some 4, some 5, some 6] (by rfl) ?_
            repeat' (first | exact trivial | refine ⟨rfl, ?_⟩)
          rcases Nat.lt_or_ge x w with hx2 | hx2
          · have ebx := eb x hx2
            rw [← hL, ← hj] at ebx
            have okx := bm_ok (f := upX f (u + 1) x) hw (show 1 ≤ k ∧ k ≤ 1024 by omega)
            have so3 := eo (j + 1 + x) (by omega)
            have ic := is_c w k (bm w k (upX f (u + 1) x)) x (u + 1 : Nat) okx
            rw [px_bm hx2 hy2, upX_self] at ic
            have wc := window_c w k (bm w k (upX f (u + 1) x)) x (u + 1) okx (by omega) (by omega)
            have wi : winV (px w k (bm w k (upX f (u + 1) x))) x (u + 1 : Nat) = (win w k f x (u + 1) : Int) := by rw [← win_up (w := w) (k := k) (f := f)]; exact win_int
            rw [wi] at wc
            have ct : cut (bm w k (upX f (u + 1) x)) 0 (st w * k) = bm w k (upX f (u + 1) x) := cut_all bm_len.symm
            rw [← ct] at ic wc
            have z5 : 0 + st w * k ≤ (bm w k (upX f (u + 1) x)).length := by rw [bm_len]; omega
            have es3 := es (j + 1 + x)
            have db3 := hH (j + 1 + x) (by omega)
            rw [show ctx L (j + 1 + x) = win w k f x (u + 1) from congrArg Prod.fst ebx] at es3 db3
            rw [show bitA L (j + 1 + x) = (f x (u + 1)).toNat from congrArg Prod.snd ebx] at db3
            have wl := win_lt (w := w) (h := k) (f := f) (x := x) (y := u + 1)
            have nx3 : j + 1 + (x + 1) = j + 1 + x + 1 := by omega
            obtain ⟨s3, hs3⟩ : ∃ s3, s3 = E (j + 1 + x) := ⟨_, rfl⟩
            rw [← hs3] at so3 es3 db3 ⊢
            cases hf : f x (u + 1)
            · have pc3 := get1_c s3 (j + 1 + x) (win w k f x (u + 1)) (win w k f x (u + 1)) 0 0 rfl (by rw [db3, hf]; rfl) q so3 (by omega) (by omega) hq hqb
              have un : bm w k (upX f (u + 1) (x + 1)) = bm w k (upX f (u + 1) x) := bm_congr fun i v _ _ => upX_no hf i v
              repeat' (first
                | exact z5
                | ((with_reducible refine TOps.any ?_); refine TOps.callE env (by rfl) (by rfl) (by rfl) ?_ (ic) (by rfl) ?_)
                | ((with_reducible refine TOps.any ?_); refine TOps.callE env (by rfl) (by rfl) (by rfl) ?_ (wc) (by rfl) ?_)
                | ((with_reducible refine TOps.any ?_); refine TOps.callHE env [3, 2, 4, 5, 6] (pc3) (by rfl) (by rfl) (by rfl) (by rfl) (by rfl) (by rfl) (by repeat' (first | exact trivial | refine ⟨rfl, ?_⟩)) ?_)
                | refine GZp_i_y ?_ ?_ ?_ ?_ ?_ ?_ ?_ ?_
                | with_reducible first | exact BzZq.mk | refine Tw.ret ?_ | refine ImZq.i fun h => ?_ | refine IkZq.i fun hk => ?_)
              refine ⟨x + 1, by omega, by omega, ?_⟩
              rw [nx3, es3, un]
              refine TWk.fcanon env [some 0, some 1, some 2, some 3, some 4, some 5, some 6] (by rfl) ?_
              repeat' (first | exact trivial | refine ⟨rfl, ?_⟩)
            · have pc3 := get1_c s3 (j + 1 + x) (win w k f x (u + 1)) (win w k f x (u + 1)) 0 1 rfl (by rw [db3, hf]; rfl) q so3 (by omega) (by omega) hq hqb
              have hbd := bm_bd (w := w) (h := k) (f := upX f (u + 1) x) (at8_lt hx2 hy2)
              have hmk := bm_mark (f := upX f (u + 1) x) hx2 hy2
              rw [bm_congr fun i v _ _ => upX_yes hf i v] at hmk
              have mc := mark_c w k (bm w k (upX f (u + 1) x)) x (u + 1) hw (show 1 ≤ k ∧ k ≤ 1024 by omega) bm_len hbd hx2 hy2
              rw [hmk] at mc
              repeat' (first
                | exact z5
                | ((with_reducible refine TOps.any ?_); refine TOps.callE env (by rfl) (by rfl) (by rfl) ?_ (ic) (by rfl) ?_)
                | ((with_reducible refine TOps.any ?_); refine TOps.callE env (by rfl) (by rfl) (by rfl) ?_ (wc) (by rfl) ?_)
                | ((with_reducible refine TOps.any ?_); refine TOps.callHE env [3, 2, 4, 5, 6] (pc3) (by rfl) (by rfl) (by rfl) (by rfl) (by rfl) (by rfl) (by repeat' (first | exact trivial | refine ⟨rfl, ?_⟩)) ?_)
                | ((with_reducible refine TOps.any ?_); refine TOps.callHE env [0, 1] (mc) (by rfl) (by rfl) (by rfl) (by rfl) (by rfl) (by rfl) (by repeat' (first | exact trivial | refine ⟨rfl, ?_⟩)) ?_)
                | refine GZp_i_y ?_ ?_ ?_ ?_ ?_ ?_ ?_ ?_
                | with_reducible first | exact BzZq.mk | refine Tw.ret ?_ | refine ImZq.i fun h => ?_ | refine IkZq.i fun hk => ?_)
              refine ⟨x + 1, by omega, by omega, ?_⟩
              rw [nx3, es3]
              refine TWk.fcanon env [some 0, some 1, some 2, some 3, some 4, some 5, some 6] (by rfl) ?_
              repeat' (first | exact trivial | refine ⟨rfl, ?_⟩)
          · obtain rfl : x = w := by omega
            repeat' (first
              | refine GZp_i_y ?_ ?_ ?_ ?_ ?_ ?_ ?_ ?_
              | with_reducible first | exact BzZq.mk | refine Tw.ret ?_ | refine ImZq.i fun h => ?_ | refine IkZq.i fun hk => ?_)
            refine ⟨u + 1 + 1, hy2, by omega, ?_⟩
            dsimp only
            rw [lx, uw]
            refine TWk.fcanon env [some 0, some 1, some 2, some 3, some 4, some 5, some 6] (by rfl) ?_
            repeat' (first | exact trivial | refine ⟨rfl, ?_⟩)
    · rw [hsm] at dbj ly
      rw [if_pos rfl] at ly
      have ly1 : (evs w k f sm (y + 1)).length = j + 1 := by rw [ly]
      have cp := hcp hsm
      rcases y with _ | u
      · have z1 : 0 + st w ≤ (rowB w fun _ => false).length := by rw [rowB_len]; omega
        have z2 : 0 * st w + st w ≤ (bm w k (upR f 0)).length := by rw [bl]; omega
        obtain ⟨bb, be⟩ : ∃ bb, TC R Try.prog bytes_Equal_f [.lst Ey (cut (bm w k (upR f (0))) ((0) * st w) (st w)), .lst Ey (cut (rowB w fun _ => false) 0 (st w))] [] (fun v X => v = .bool bb ∧ X = []) := ⟨_, bequal_c _ _ cA (by rw [cut_all rowB_len.symm]; exact rb _)⟩
        have pc := get1_c s j 2048 2048 (if bb = true then 1 else 0) 1 rfl (by rw [dbj]; rfl) q so (by omega) (by omega) hq hqb
        have yr : cut (rowB w fun _ => false) 0 (st w) = rowB w (abv f (0)) := (cut_all rowB_len.symm).trans (rfl)
        have yl : (cut (rowB w fun _ => false) 0 (st w)).length = st w := by rw [yr, rowB_len]
        have cp2 : bm w k (upR f (0 + 1)) = List.take ((0) * st w) (bm w k (upR f (0))) ++ List.take (Nat.min (cut (rowB w fun _ => false) 0 (st w)).length (st w)) (cut (rowB w fun _ => false) 0 (st w)) ++ List.drop ((0) * st w + Nat.min (cut (rowB w fun _ => false) 0 (st w)).length (st w)) (bm w k (upR f (0))) := by
          rw [yl, show Nat.min (st w) (st w) = st w from Nat.min_self _, yr, List.take_of_length_le (l := rowB w (abv f (0))) (by rw [rowB_len]; omega)]
          exact cp.symm
        dsimp only
        rw [← hj, ← hs']
        repeat' (first
          | exact d1
          | exact d2
          | exact d3
          | refine GZp_i_y ?_ ?_ ?_ ?_ ?_ ?_ ?_ ?_
          | with_reducible first | exact BzZq.mk | refine Tw.ret ?_ | refine ImZq.i fun h => ?_ | refine IkZq.i fun hk => ?_)
        rw [eO, eN]
        cases bb
        all_goals
          repeat' (first
            | ((with_reducible refine TOps.any ?_); refine TOps.callE env (by rfl) (by rfl) ((fsnap_eq _ _ _).trans (by rfl)) (show Conj [_, _] from ?_) (be) (by rfl) ?_)
            | ((with_reducible refine TOps.any ?_); refine TOps.callHE env [3, 2, 4, 5, 6] (pc) (by rfl) (by rfl) (by rfl) (by rfl) (by rfl) (by rfl) (by repeat' (first | exact trivial | refine ⟨rfl, ?_⟩)) ?_)
            | exact z1
            | exact z2
            | exact ⟨z2, z1⟩
            | exact ⟨z1, z2⟩
            | refine GZp_i_y ?_ ?_ ?_ ?_ ?_ ?_ ?_ ?_
            | with_reducible first | exact BzZq.mk | refine Tw.ret ?_ | refine ImZq.i fun h => ?_ | refine IkZq.i fun hk => ?_)
          refine ⟨0 + 1, hy2, by omega, ?_⟩
          dsimp only
          rw [ly1, esj]
          refine TWk.fcanon env [some 0, some 1, some 2, some 3, some 4, some 5, some 6] (by rfl) ?_
          repeat' (first | exact trivial | refine ⟨rfl, ?_⟩ | refine ⟨cp2, ?_⟩)
      · have z1 : u * st w + st w ≤ (bm w k (upR f (u + 1))).length := by rw [bl]; rw [Nat.add_mul, Nat.one_mul] at yb; omega
        have z2 : (u + 1) * st w + st w ≤ (bm w k (upR f (u + 1))).length := by rw [bl]; omega
        obtain ⟨bb, be⟩ : ∃ bb, TC R Try.prog bytes_Equal_f [.lst Ey (cut (bm w k (upR f (u + 1))) ((u + 1) * st w) (st w)), .lst Ey (cut (bm w k (upR f (u + 1))) (u * st w) (st w))] [] (fun v X => v = .bool bb ∧ X = []) := ⟨_, bequal_c _ _ cA (by rw [cut_row (f := upR f (u + 1)) (show u < k by omega) hw0]; exact rb _)⟩
        have pc := get1_c s j 2048 2048 (if bb = true then 1 else 0) 1 rfl (by rw [dbj]; rfl) q so (by omega) (by omega) hq hqb
        have yr : cut (bm w k (upR f (u + 1))) (u * st w) (st w) = rowB w (abv f (u + 1)) := (cut_row (f := upR f (u + 1)) (show u < k by omega) hw0).trans (rowB_congr fun x _ => by unfold upR abv; rw [decide_eq_true (show u < u + 1 by omega), if_neg (by omega)]; rfl)
        have yl : (cut (bm w k (upR f (u + 1))) (u * st w) (st w)).length = st w := by rw [yr, rowB_len]
        have cp2 : bm w k (upR f (u + 1 + 1)) = List.take ((u + 1) * st w) (bm w k (upR f (u + 1))) ++ List.take (Nat.min (cut (bm w k (upR f (u + 1))) (u * st w) (st w)).length (st w)) (cut (bm w k (upR f (u + 1))) (u * st w) (st w)) ++ List.drop ((u + 1) * st w + Nat.min (cut (bm w k (upR f (u + 1))) (u * st w) (st w)).length (st w)) (bm w k (upR f (u + 1))) := by
          rw [yl, show Nat.min (st w) (st w) = st w from Nat.min_self _, yr, List.take_of_length_le (l := rowB w (abv f (u + 1))) (by rw [rowB_len]; omega)]
          exact cp.symm
        dsimp only
        rw [← hj, ← hs']
        repeat' (first
          | exact d1
          | exact d2
          | exact d3
          | refine GZp_i_y ?_ ?_ ?_ ?_ ?_ ?_ ?_ ?_
          | with_reducible first | exact BzZq.mk | refine Tw.ret ?_ | refine ImZq.i fun h => ?_ | refine IkZq.i fun hk => ?_)
        rw [eO, eN]
        cases bb
        all_goals
          repeat' (first
            | ((with_reducible refine TOps.any ?_); refine TOps.callE env (by rfl) (by rfl) ((fsnap_eq _ _ _).trans (by rfl)) (show Conj [_, _] from ?_) (be) (by rfl) ?_)
            | ((with_reducible refine TOps.any ?_); refine TOps.callHE env [3, 2, 4, 5, 6] (pc) (by rfl) (by rfl) (by rfl) (by rfl) (by rfl) (by rfl) (by repeat' (first | exact trivial | refine ⟨rfl, ?_⟩)) ?_)
            | exact z1
            | exact z2
            | exact ⟨z2, z1⟩
            | exact ⟨z1, z2⟩
            | refine GZp_i_y ?_ ?_ ?_ ?_ ?_ ?_ ?_ ?_
            | with_reducible first | exact BzZq.mk | refine Tw.ret ?_ | refine ImZq.i fun h => ?_ | refine IkZq.i fun hk => ?_)
          refine ⟨u + 1 + 1, hy2, by omega, ?_⟩
          dsimp only
          rw [ly1, esj]
          refine TWk.fcanon env [some 0, some 1, some 2, some 3, some 4, some 5, some 6] (by rfl) ?_
          repeat' (first | exact trivial | refine ⟨rfl, ?_⟩ | refine ⟨cp2, ?_⟩)
  · obtain rfl : y = k := by omega
    have ll : L.length = (evs w y f sm y).length := by rw [hL]
    rw [ll]
    rcases y with _ | u
    · omega
    · dsimp only
      repeat' (first
        | refine GZp_i_y ?_ ?_ ?_ ?_ ?_ ?_ ?_ ?_
        | with_reducible first | exact BzZq.mk | refine Tw.ret ?_ | refine ImZq.i fun h => ?_ | refine IkZq.i fun hk => ?_)
      exact ⟨rfl, rfl⟩
end Go.Proofs.Ytjedljdfkoagbaa
