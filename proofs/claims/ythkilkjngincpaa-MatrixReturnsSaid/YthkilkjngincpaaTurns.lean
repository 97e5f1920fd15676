/- Bitmaps: turns (as in Bits4, where there is no growth). -/
import Derived.Test.YthkilkjngincpaaBits2
import Derived.Test.YthkilkjngincpaaGo
namespace Go.Proofs.Ythkilkjngincpaa
open Go Go.Lite
set_option linter.unusedVariables false
set_option linter.unusedSimpArgs false
set_option maxRecDepth 100000
set_option maxHeartbeats 4000000
-- @macs Bits4
-- @simp rdi rdy

/-! ### Turns -/
theorem turned1_c (w k : Nat) (D : List Int) (x y : Nat) (ok : BmOk w k D) (hx : x < w) (hy : y < k) :
    TC R Try.prog bitmap_Turned_1_f [.int .i64 x, .int .i64 y, .pel [.pel [.int .i64 w, .int .i64 k, .lst Ey D]]] [] (fun v X => v = .bool (px w k D ((w - 1 - x : Nat) : Int) y) ∧ X = []) := by
  have hw := ok.w1
  have c1 := is_c w k D ((w : Int) - 1 - x) y ok
  have e : ((w : Int) - 1 - x) = ((w - 1 - x : Nat) : Int) := by omega
  refine tc0 env bitmap_Turned_1_s (by rfl) ?_
  dsimp only [bitmap_Turned_1_c]
  repeat' (first
    | ((with_reducible refine TDr.any ?_); refine TDr.callE env (by first | rfl | assumption) (by rfl) (by rfl) ?_ (c1) (by rfl) (by rfl) ?_)
    | refine GZp_i_y ?_ ?_ ?_ ?_ ?_ ?_ ?_ ?_
    | with_reducible first | exact BzZq.mk | refine Tw.ret ?_ | refine ImZq.i fun h => ?_ | refine IkZq.i fun hk => ?_)
  rw [e]
  exact ⟨rfl, rfl, rfl⟩
theorem turned2_c (w k : Nat) (D : List Int) (x y : Nat) (ok : BmOk w k D) (hx : x < k) (hy : y < w) :
    TC R Try.prog bitmap_Turned_2_f [.int .i64 x, .int .i64 y, .pel [.int .i64 w, .int .i64 k, .lst Ey D]] [] (fun v X => v = .bool (px w k D y ((k - 1 - x : Nat) : Int)) ∧ X = []) := by
  have hh := ok.h1
  have c1 := is_c w k D y ((k : Int) - 1 - x) ok
  have e : ((k : Int) - 1 - x) = ((k - 1 - x : Nat) : Int) := by omega
  refine tc0 env bitmap_Turned_2_s (by rfl) ?_
  dsimp only [bitmap_Turned_2_c]
  repeat' (first
    | ((with_reducible refine TOps.any ?_); refine TOps.callV env (by rfl) (by rfl) (by rfl) (c1) ?_)
    | refine GZp_i_y ?_ ?_ ?_ ?_ ?_ ?_ ?_ ?_
    | with_reducible first | exact BzZq.mk | refine Tw.ret ?_ | refine ImZq.i fun h => ?_ | refine IkZq.i fun hk => ?_)
  rw [e]
  exact ⟨rfl, rfl, rfl⟩
theorem fromTurn1_h (w k : Nat) (a b : Int) (d : List Int) (g : Nat → Nat → Bool) (hw : Due (1 ≤ w ∧ w ≤ 1024)) (hk : Due (1 ≤ k ∧ k ≤ 1024))
    (hf : ∀ x y : Nat, x < w → y < k → TC R Try.prog bitmap_Turned_1_f [.int .i64 x, .int .i64 y, .pel [.pel [.int .i64 a, .int .i64 b, .lst Ey d]]] [] (fun v X => v = .bool (g x y) ∧ X = [])) :
    TC R Try.prog bitmap_from_f [.int .i64 w, .int .i64 k, .fn bitmap_Turned_1_f [.ptr 1 0]] [some (.cells [.int .i64 a, .int .i64 b, .lst Ey d]), some (.cells [.ptr 0 0])] (fun v X => v = .agg [.int .i64 w, .int .i64 k, .lst Ey (bm w k g)] ∧ X = [some (.cells [.int .i64 a, .int .i64 b, .lst Ey d]), some (.cells [.ptr 0 0])]) := by
  dsimp only [Due] at hw hk
  have hlb := len_bd hw hk
  have sb := st_bd hw
  have bc := blank_c w k hw hk
  rw [bm_congr (g := upto g 0 0) fun x y _ _ => upto_none.symm] at bc
  have raw : TC R Try.prog bitmap_from_f [.int .i64 w, .int .i64 k, .fn bitmap_Turned_1_f [.ptr 1 0]] [some (.cells [.int .i64 a, .int .i64 b, .lst Ey d]), some (.cells [.ptr 0 0])] (fun v X => v = .agg [.int .i64 w, .int .i64 k, .lst Ey (bm w k g)] ∧ ∃ a' b' c', X = [some (.cells [.int .i64 a, .int .i64 b, .lst Ey d]), some (.cells [.ptr 0 0]), a', b', c']) := by
   refine tc env bitmap_from_s (by rfl) ?_
   dsimp only [bitmap_from_c]
   repeat' (first
     | ((with_reducible refine TOps.any ?_); refine TOps.callV env (by rfl) (by rfl) (by rfl) (bc) ?_)
     | refine GZp_i_y ?_ ?_ ?_ ?_ ?_ ?_ ?_ ?_
     | with_reducible first | exact BzZq.mk | refine Tw.ret ?_ | refine ImZq.i fun h => ?_ | refine IkZq.i fun hk => ?_)
   refine Tw.loopK [0, 1, 2] (fun y : Nat => y ≤ k) (fun y => k - y) (fun y => [(13, .int .i64 k), (14, .int .i64 y), (6, .ptr 2 0), (7, .ptr 4 0)])
     (fun y => [some (.cells [.int .i64 a, .int .i64 b, .lst Ey d]), some (.cells [.ptr 0 0]), some (.cells [.int .i64 0, .int .i64 0, .nils]), some (.arr Ey (bm w k (upto g 0 y))), some (.cells [.int .i64 w, .int .i64 k, .sla 1 3 0 (st w * k)])]) ⟨0, by omega, TWk.fcanon env [some 0, some 1, some 2, some 3, some 4] (by rfl) ?_⟩ (fun y hy => ?_)
   · repeat' (first
       | with_reducible first | exact Conj.nil | refine Conj.cons rfl ?_ | refine Conj.same ?_ | refine Conj.ask ?_ ?_
       | ((with_reducible refine Due.mk ?_); (first | with_reducible rfl | omega | assumption | decide | ((try simp only [goS] at *) <;> (try intro h) <;> (try intro h') <;> (try simp only [goS] at *) <;> (try simp only [rdi, rdy, Int.toNat_natCast, Nat.add_zero] at *) <;> (try simp only [rng]) <;> (first | assumption | omega)) | (exact due_app0 (by omega)) | (exact due_app (by omega)) | (intros; simp; done) | (intros; simp; omega)))
       | with_reducible refine Due.mk ?_
       | omega)
   rcases Nat.lt_or_ge y k with hy | hy
   · repeat' (first
       | refine GZp_i_y ?_ ?_ ?_ ?_ ?_ ?_ ?_ ?_
       | with_reducible first | exact BzZq.mk | refine Tw.ret ?_ | refine ImZq.i fun h => ?_ | refine IkZq.i fun hk => ?_)
     refine Tw.loopK [0, 1, 2, 13, 14, 6, 7, 8] (fun x : Nat => x ≤ w) (fun x => w - x) (fun x => [(17, .int .i64 w), (18, .int .i64 x)])
       (fun x => [some (.cells [.int .i64 a, .int .i64 b, .lst Ey d]), some (.cells [.ptr 0 0]), some (.cells [.int .i64 0, .int .i64 0, .nils]), some (.arr Ey (bm w k (upto g x y))), some (.cells [.int .i64 w, .int .i64 k, .sla 1 3 0 (st w * k)])]) ⟨0, by omega, TWk.fcanon env [some 0, some 1, some 2, some 3, some 4] (by rfl) ?_⟩ (fun x hx => ?_)
     · repeat' (first
         | with_reducible first | exact Conj.nil | refine Conj.cons rfl ?_ | refine Conj.same ?_ | refine Conj.ask ?_ ?_
         | ((with_reducible refine Due.mk ?_); (first | with_reducible rfl | omega | assumption | decide | ((try simp only [goS] at *) <;> (try intro h) <;> (try intro h') <;> (try simp only [goS] at *) <;> (try simp only [rdi, rdy, Int.toNat_natCast, Nat.add_zero] at *) <;> (try simp only [rng]) <;> (first | assumption | omega)) | (exact due_app0 (by omega)) | (exact due_app (by omega)) | (intros; simp; done) | (intros; simp; omega)))
         | with_reducible refine Due.mk ?_
         | omega)
     rcases Nat.lt_or_ge x w with hx | hx
     · have fc := hf x y hx hy
       have hbd := bm_bd (w := w) (h := k) (f := upto g x y) (at8_lt hx hy)
       have hbl := bm_len (w := w) (h := k) (f := upto g x y)
       have hmk := bm_mark (f := upto g x y) hx hy
       have mc := mark_c w k (bm w k (upto g x y)) x y hw hk hbl hbd hx hy
       rw [hmk] at mc
       cases hg : g x y
       · rw [hg] at fc
         rw [bm_congr fun i j _ _ => upto_no hg i j] at *
         repeat' (first
           | ((with_reducible refine TOps.any ?_); refine TOps.callE env (by rfl) (by rfl) (by rfl) ?_ (fc) (by rfl) ?_)
           | refine GZp_i_y ?_ ?_ ?_ ?_ ?_ ?_ ?_ ?_
           | with_reducible first | exact BzZq.mk | refine Tw.ret ?_ | refine ImZq.i fun h => ?_ | refine IkZq.i fun hk => ?_)
         refine ⟨x + 1, by omega, by omega, TWk.fcanon env [some 0, some 1, some 2, some 3, some 4] (by rfl) ?_⟩
         repeat' (first
           | with_reducible first | exact Conj.nil | refine Conj.cons rfl ?_ | refine Conj.same ?_ | refine Conj.ask ?_ ?_
           | ((with_reducible refine Due.mk ?_); (first | with_reducible rfl | omega | assumption | decide | ((try simp only [goS] at *) <;> (try intro h) <;> (try intro h') <;> (try simp only [goS] at *) <;> (try simp only [rdi, rdy, Int.toNat_natCast, Nat.add_zero] at *) <;> (try simp only [rng]) <;> (first | assumption | omega)) | (exact due_app0 (by omega)) | (exact due_app (by omega)) | (intros; simp; done) | (intros; simp; omega)))
           | with_reducible refine Due.mk ?_
           | omega)
       · rw [hg] at fc
         rw [bm_congr (f := fun i j => upto g x y i j || (decide (i = x) && decide (j = y))) fun i j _ _ => upto_yes hg i j] at mc
         repeat' (first
           | ((with_reducible refine TOps.any ?_); refine TOps.callE env (by rfl) (by rfl) (by rfl) ?_ (fc) (by rfl) ?_)
           | ((with_reducible refine TOps.any ?_); refine TOps.callHE env [4, 3] (mc) (by rfl) (by rfl) (by rfl) (by rfl) (by rfl) (by rfl) (by repeat' (first | exact trivial | refine ⟨rfl, ?_⟩)) ?_)
           | refine GZp_i_y ?_ ?_ ?_ ?_ ?_ ?_ ?_ ?_
           | with_reducible first | exact BzZq.mk | refine Tw.ret ?_ | refine ImZq.i fun h => ?_ | refine IkZq.i fun hk => ?_)
         refine ⟨x + 1, by omega, by omega, TWk.fcanon env [some 0, some 1, some 2, some 3, some 4] (by rfl) ?_⟩
         repeat' (first
           | with_reducible first | exact Conj.nil | refine Conj.cons rfl ?_ | refine Conj.same ?_ | refine Conj.ask ?_ ?_
           | ((with_reducible refine Due.mk ?_); (first | with_reducible rfl | omega | assumption | decide | ((try simp only [goS] at *) <;> (try intro h) <;> (try intro h') <;> (try simp only [goS] at *) <;> (try simp only [rdi, rdy, Int.toNat_natCast, Nat.add_zero] at *) <;> (try simp only [rng]) <;> (first | assumption | omega)) | (exact due_app0 (by omega)) | (exact due_app (by omega)) | (intros; simp; done) | (intros; simp; omega)))
           | with_reducible refine Due.mk ?_
           | omega)
     · obtain rfl : x = w := by omega
       rw [bm_congr fun i j hi _ => upto_row (g := g) (y := y) hi]
       repeat' (first
         | refine GZp_i_y ?_ ?_ ?_ ?_ ?_ ?_ ?_ ?_
         | with_reducible first | exact BzZq.mk | refine Tw.ret ?_ | refine ImZq.i fun h => ?_ | refine IkZq.i fun hk => ?_)
       refine ⟨y + 1, by omega, by omega, TWk.fcanon env [some 0, some 1, some 2, some 3, some 4] (by rfl) ?_⟩
       repeat' (first
         | with_reducible first | exact Conj.nil | refine Conj.cons rfl ?_ | refine Conj.same ?_ | refine Conj.ask ?_ ?_
         | ((with_reducible refine Due.mk ?_); (first | with_reducible rfl | omega | assumption | decide | ((try simp only [goS] at *) <;> (try intro h) <;> (try intro h') <;> (try simp only [goS] at *) <;> (try simp only [rdi, rdy, Int.toNat_natCast, Nat.add_zero] at *) <;> (try simp only [rng]) <;> (first | assumption | omega)) | (exact due_app0 (by omega)) | (exact due_app (by omega)) | (intros; simp; done) | (intros; simp; omega)))
         | with_reducible refine Due.mk ?_
         | omega)
   · obtain rfl : y = k := by omega
     rw [bm_congr fun i j _ hj => upto_all (g := g) hj]
     have hbl := bm_len (w := w) (h := y) (f := g)
     have hle : 0 + st w * y ≤ (bm w y g).length := by omega
     repeat' (first
       | exact hle
       | ((with_reducible refine Tw.retI ?_); refine Tw.frz env 3 (by rfl) (by rfl) (by rfl) ?_ ?_ (Tw.ret ?_))
       | refine GZp_i_y ?_ ?_ ?_ ?_ ?_ ?_ ?_ ?_
       | with_reducible first | exact BzZq.mk | refine Tw.ret ?_ | refine ImZq.i fun h => ?_ | refine IkZq.i fun hk => ?_)
     rw [cut_all bm_len.symm]
     exact ⟨rfl, _, _, _, rfl⟩
  refine raw.wk fun v X h => ?_
  obtain ⟨rfl, a', b', c', rfl⟩ := h
  refine ⟨_, [some (.cells [.int .i64 a, .int .i64 b, .lst Ey d]), some (.cells [.ptr 0 0])], TWk.fcanon env [some 0, some 1] (F' := [(0, .agg [.int .i64 w, .int .i64 k, .lst Ey (bm w k g)])]) (by rfl) ?_, rfl, rfl⟩
  repeat' (first
    | with_reducible first | exact Conj.nil | refine Conj.cons rfl ?_ | refine Conj.same ?_ | refine Conj.ask ?_ ?_
    | ((with_reducible refine Due.mk ?_); (first | with_reducible rfl | omega | assumption | decide | ((try simp only [goS] at *) <;> (try intro h) <;> (try intro h') <;> (try simp only [goS] at *) <;> (try simp only [rdi, rdy, Int.toNat_natCast, Nat.add_zero] at *) <;> (try simp only [rng]) <;> (first | assumption | omega)) | (exact due_app0 (by omega)) | (exact due_app (by omega)) | (intros; simp; done) | (intros; simp; omega)))
    | with_reducible refine Due.mk ?_
    | omega)
theorem fromTurn2_h (w k : Nat) (a b : Int) (d : List Int) (g : Nat → Nat → Bool) (hw : Due (1 ≤ w ∧ w ≤ 1024)) (hk : Due (1 ≤ k ∧ k ≤ 1024))
    (hf : ∀ x y : Nat, x < w → y < k → TC R Try.prog bitmap_Turned_2_f [.int .i64 x, .int .i64 y, .pel [.int .i64 a, .int .i64 b, .lst Ey d]] [] (fun v X => v = .bool (g x y) ∧ X = [])) :
    TC R Try.prog bitmap_from_f [.int .i64 w, .int .i64 k, .fn bitmap_Turned_2_f [.ptr 0 0]] [some (.cells [.int .i64 a, .int .i64 b, .lst Ey d])] (fun v X => v = .agg [.int .i64 w, .int .i64 k, .lst Ey (bm w k g)] ∧ X = [some (.cells [.int .i64 a, .int .i64 b, .lst Ey d])]) := by
  dsimp only [Due] at hw hk
  have hlb := len_bd hw hk
  have sb := st_bd hw
  have bc := blank_c w k hw hk
  rw [bm_congr (g := upto g 0 0) fun x y _ _ => upto_none.symm] at bc
  have raw : TC R Try.prog bitmap_from_f [.int .i64 w, .int .i64 k, .fn bitmap_Turned_2_f [.ptr 0 0]] [some (.cells [.int .i64 a, .int .i64 b, .lst Ey d])] (fun v X => v = .agg [.int .i64 w, .int .i64 k, .lst Ey (bm w k g)] ∧ ∃ a' b' c', X = [some (.cells [.int .i64 a, .int .i64 b, .lst Ey d]), a', b', c']) := by
   refine tc env bitmap_from_s (by rfl) ?_
   dsimp only [bitmap_from_c]
   repeat' (first
     | ((with_reducible refine TOps.any ?_); refine TOps.callV env (by rfl) (by rfl) (by rfl) (bc) ?_)
     | refine GZp_i_y ?_ ?_ ?_ ?_ ?_ ?_ ?_ ?_
     | with_reducible first | exact BzZq.mk | refine Tw.ret ?_ | refine ImZq.i fun h => ?_ | refine IkZq.i fun hk => ?_)
   refine Tw.loopK [0, 1, 2] (fun y : Nat => y ≤ k) (fun y => k - y) (fun y => [(13, .int .i64 k), (14, .int .i64 y), (6, .ptr 1 0), (7, .ptr 3 0)])
     (fun y => [some (.cells [.int .i64 a, .int .i64 b, .lst Ey d]), some (.cells [.int .i64 0, .int .i64 0, .nils]), some (.arr Ey (bm w k (upto g 0 y))), some (.cells [.int .i64 w, .int .i64 k, .sla 1 2 0 (st w * k)])]) ⟨0, by omega, TWk.fcanon env [some 0, some 1, some 2, some 3] (by rfl) ?_⟩ (fun y hy => ?_)
   · repeat' (first
       | with_reducible first | exact Conj.nil | refine Conj.cons rfl ?_ | refine Conj.same ?_ | refine Conj.ask ?_ ?_
       | ((with_reducible refine Due.mk ?_); (first | with_reducible rfl | omega | assumption | decide | ((try simp only [goS] at *) <;> (try intro h) <;> (try intro h') <;> (try simp only [goS] at *) <;> (try simp only [rdi, rdy, Int.toNat_natCast, Nat.add_zero] at *) <;> (try simp only [rng]) <;> (first | assumption | omega)) | (exact due_app0 (by omega)) | (exact due_app (by omega)) | (intros; simp; done) | (intros; simp; omega)))
       | with_reducible refine Due.mk ?_
       | omega)
   rcases Nat.lt_or_ge y k with hy | hy
   · repeat' (first
       | refine GZp_i_y ?_ ?_ ?_ ?_ ?_ ?_ ?_ ?_
       | with_reducible first | exact BzZq.mk | refine Tw.ret ?_ | refine ImZq.i fun h => ?_ | refine IkZq.i fun hk => ?_)
     refine Tw.loopK [0, 1, 2, 13, 14, 6, 7, 8] (fun x : Nat => x ≤ w) (fun x => w - x) (fun x => [(17, .int .i64 w), (18, .int .i64 x)])
       (fun x => [some (.cells [.int .i64 a, .int .i64 b, .lst Ey d]), some (.cells [.int .i64 0, .int .i64 0, .nils]), some (.arr Ey (bm w k (upto g x y))), some (.cells [.int .i64 w, .int .i64 k, .sla 1 2 0 (st w * k)])]) ⟨0, by omega, TWk.fcanon env [some 0, some 1, some 2, some 3] (by rfl) ?_⟩ (fun x hx => ?_)
     · repeat' (first
         | with_reducible first | exact Conj.nil | refine Conj.cons rfl ?_ | refine Conj.same ?_ | refine Conj.ask ?_ ?_
         | ((with_reducible refine Due.mk ?_); (first | with_reducible rfl | omega | assumption | decide | ((try simp only [goS] at *) <;> (try intro h) <;> (try intro h') <;> (try simp only [goS] at *) <;> (try simp only [rdi, rdy, Int.toNat_natCast, Nat.add_zero] at *) <;> (try simp only [rng]) <;> (first | assumption | omega)) | (exact due_app0 (by omega)) | (exact due_app (by omega)) | (intros; simp; done) | (intros; simp; omega)))
         | with_reducible refine Due.mk ?_
         | omega)
     rcases Nat.lt_or_ge x w with hx | hx
     · have fc := hf x y hx hy
       have hbd := bm_bd (w := w) (h := k) (f := upto g x y) (at8_lt hx hy)
       have hbl := bm_len (w := w) (h := k) (f := upto g x y)
       have hmk := bm_mark (f := upto g x y) hx hy
       have mc := mark_c w k (bm w k (upto g x y)) x y hw hk hbl hbd hx hy
       rw [hmk] at mc
       cases hg : g x y
       · rw [hg] at fc
         rw [bm_congr fun i j _ _ => upto_no hg i j] at *
         repeat' (first
           | ((with_reducible refine TOps.any ?_); refine TOps.callE env (by rfl) (by rfl) (by rfl) ?_ (fc) (by rfl) ?_)
           | refine GZp_i_y ?_ ?_ ?_ ?_ ?_ ?_ ?_ ?_
           | with_reducible first | exact BzZq.mk | refine Tw.ret ?_ | refine ImZq.i fun h => ?_ | refine IkZq.i fun hk => ?_)
         refine ⟨x + 1, by omega, by omega, TWk.fcanon env [some 0, some 1, some 2, some 3] (by rfl) ?_⟩
         repeat' (first
           | with_reducible first | exact Conj.nil | refine Conj.cons rfl ?_ | refine Conj.same ?_ | refine Conj.ask ?_ ?_
           | ((with_reducible refine Due.mk ?_); (first | with_reducible rfl | omega | assumption | decide | ((try simp only [goS] at *) <;> (try intro h) <;> (try intro h') <;> (try simp only [goS] at *) <;> (try simp only [rdi, rdy, Int.toNat_natCast, Nat.add_zero] at *) <;> (try simp only [rng]) <;> (first | assumption | omega)) | (exact due_app0 (by omega)) | (exact due_app (by omega)) | (intros; simp; done) | (intros; simp; omega)))
           | with_reducible refine Due.mk ?_
           | omega)
       · rw [hg] at fc
         rw [bm_congr (f := fun i j => upto g x y i j || (decide (i = x) && decide (j = y))) fun i j _ _ => upto_yes hg i j] at mc
         repeat' (first
           | ((with_reducible refine TOps.any ?_); refine TOps.callE env (by rfl) (by rfl) (by rfl) ?_ (fc) (by rfl) ?_)
           | ((with_reducible refine TOps.any ?_); refine TOps.callHE env [3, 2] (mc) (by rfl) (by rfl) (by rfl) (by rfl) (by rfl) (by rfl) (by repeat' (first | exact trivial | refine ⟨rfl, ?_⟩)) ?_)
           | refine GZp_i_y ?_ ?_ ?_ ?_ ?_ ?_ ?_ ?_
           | with_reducible first | exact BzZq.mk | refine Tw.ret ?_ | refine ImZq.i fun h => ?_ | refine IkZq.i fun hk => ?_)
         refine ⟨x + 1, by omega, by omega, TWk.fcanon env [some 0, some 1, some 2, some 3] (by rfl) ?_⟩
         repeat' (first
           | with_reducible first | exact Conj.nil | refine Conj.cons rfl ?_ | refine Conj.same ?_ | refine Conj.ask ?_ ?_
           | ((with_reducible refine Due.mk ?_); (first | with_reducible rfl | omega | assumption | decide | ((try simp only [goS] at *) <;> (try intro h) <;> (try intro h') <;> (try simp only [goS] at *) <;> (try simp only [rdi, rdy, Int.toNat_natCast, Nat.add_zero] at *) <;> (try simp only [rng]) <;> (first | assumption | omega)) | (exact due_app0 (by omega)) | (exact due_app (by omega)) | (intros; simp; done) | (intros; simp; omega)))
           | with_reducible refine Due.mk ?_
           | omega)
     · obtain rfl : x = w := by omega
       rw [bm_congr fun i j hi _ => upto_row (g := g) (y := y) hi]
       repeat' (first
         | refine GZp_i_y ?_ ?_ ?_ ?_ ?_ ?_ ?_ ?_
         | with_reducible first | exact BzZq.mk | refine Tw.ret ?_ | refine ImZq.i fun h => ?_ | refine IkZq.i fun hk => ?_)
       refine ⟨y + 1, by omega, by omega, TWk.fcanon env [some 0, some 1, some 2, some 3] (by rfl) ?_⟩
       repeat' (first
         | with_reducible first | exact Conj.nil | refine Conj.cons rfl ?_ | refine Conj.same ?_ | refine Conj.ask ?_ ?_
         | ((with_reducible refine Due.mk ?_); (first | with_reducible rfl | omega | assumption | decide | ((try simp only [goS] at *) <;> (try intro h) <;> (try intro h') <;> (try simp only [goS] at *) <;> (try simp only [rdi, rdy, Int.toNat_natCast, Nat.add_zero] at *) <;> (try simp only [rng]) <;> (first | assumption | omega)) | (exact due_app0 (by omega)) | (exact due_app (by omega)) | (intros; simp; done) | (intros; simp; omega)))
         | with_reducible refine Due.mk ?_
         | omega)
   · obtain rfl : y = k := by omega
     rw [bm_congr fun i j _ hj => upto_all (g := g) hj]
     have hbl := bm_len (w := w) (h := y) (f := g)
     have hle : 0 + st w * y ≤ (bm w y g).length := by omega
     repeat' (first
       | exact hle
       | ((with_reducible refine Tw.retI ?_); refine Tw.frz env 2 (by rfl) (by rfl) (by rfl) ?_ ?_ (Tw.ret ?_))
       | refine GZp_i_y ?_ ?_ ?_ ?_ ?_ ?_ ?_ ?_
       | with_reducible first | exact BzZq.mk | refine Tw.ret ?_ | refine ImZq.i fun h => ?_ | refine IkZq.i fun hk => ?_)
     rw [cut_all bm_len.symm]
     exact ⟨rfl, _, _, _, rfl⟩
  refine raw.wk fun v X h => ?_
  obtain ⟨rfl, a', b', c', rfl⟩ := h
  refine ⟨_, [some (.cells [.int .i64 a, .int .i64 b, .lst Ey d])], TWk.fcanon env [some 0] (F' := [(0, .agg [.int .i64 w, .int .i64 k, .lst Ey (bm w k g)])]) (by rfl) ?_, rfl, rfl⟩
  repeat' (first
    | with_reducible first | exact Conj.nil | refine Conj.cons rfl ?_ | refine Conj.same ?_ | refine Conj.ask ?_ ?_
    | ((with_reducible refine Due.mk ?_); (first | with_reducible rfl | omega | assumption | decide | ((try simp only [goS] at *) <;> (try intro h) <;> (try intro h') <;> (try simp only [goS] at *) <;> (try simp only [rdi, rdy, Int.toNat_natCast, Nat.add_zero] at *) <;> (try simp only [rng]) <;> (first | assumption | omega)) | (exact due_app0 (by omega)) | (exact due_app (by omega)) | (intros; simp; done) | (intros; simp; omega)))
    | with_reducible refine Due.mk ?_
    | omega)

abbrev Bm3 := Nat × Nat × List Int
/-- A quarter clockwise. -/
def rotD (t : Bm3) : Bm3 := (t.2.1, t.1, bm t.2.1 t.1 fun x y => px t.1 t.2.1 t.2.2 y ((t.2.1 - 1 - x : Nat) : Int))
def mirD (t : Bm3) : Bm3 := (t.1, t.2.1, bm t.1 t.2.1 fun x y => px t.1 t.2.1 t.2.2 ((t.1 - 1 - x : Nat) : Int) y)
def rots (t : Bm3) : Nat → Bm3
  | 0 => t
  | n + 1 => rotD (rots t n)
def Ok3 (t : Bm3) : Prop := BmOk t.1 t.2.1 t.2.2
theorem rots_ok {t : Bm3} (h : Ok3 t) : ∀ n, Ok3 (rots t n)
  | 0 => h
  | n + 1 => bm_ok (rots_ok h n).h1 (rots_ok h n).w1
theorem mir_ok {t : Bm3} (h : Ok3 t) : Ok3 (mirD t) := bm_ok h.w1 h.h1
/-- Turn by j. -/
def trn (t : Bm3) (j : Nat) : Bm3 := rots (if 4 ≤ j then mirD t else t) (j % 4)
theorem trn_ok {t : Bm3} (h : Ok3 t) (j : Nat) : Ok3 (trn t j) := by
  unfold trn
  split
  · exact rots_ok (mir_ok h) _
  · exact rots_ok h _
def enT (t : Bm3) : TV A := .agg [.int .i64 t.1, .int .i64 t.2.1, .lst Ey t.2.2]

theorem turned_c (w k : Nat) (D : List Int) (j : Nat) (ok : BmOk w k D) (hj : j < 8) :
    TC R Try.prog bitmap_Turned_f [.ptr 0 0, .int .i64 j] [some (.cells [.int .i64 w, .int .i64 k, .lst Ey D])] (fun v X => v = enT (trn (w, k, D) j) ∧ X = [some (.cells [.int .i64 w, .int .i64 k, .lst Ey D])]) := by
  have hlb := len_bd ok.w1 ok.h1
  have hl := ok.len
  have e1 : rem (j : Int) 4 = ((j % 4 : Nat) : Int) := by rw [rem_nn (by omega)]; omega
  have fc := fromTurn1_h w k w k D (fun x y => px w k D ((w - 1 - x : Nat) : Int) y) ok.w1 ok.h1 fun x y hx hy => turned1_c w k D x y ok hx hy
  have ecut : cut D 0 D.length = D := cut_full
  have ok0 : Ok3 (w, k, D) := ok
  have raw : TC R Try.prog bitmap_Turned_f [.ptr 0 0, .int .i64 j] [some (.cells [.int .i64 w, .int .i64 k, .lst Ey D])] (fun v X => v = enT (trn (w, k, D) j) ∧ ∃ a' b' c', X = [some (.cells [.int .i64 w, .int .i64 k, .lst Ey D]), a', b', c']) := by
    refine tc env bitmap_Turned_s (by rfl) ?_
    dsimp only [bitmap_Turned_c]
    rcases Nat.lt_or_ge j 4 with hj4 | hj4
    · repeat' (first
        | refine GZp_i_y ?_ ?_ ?_ ?_ ?_ ?_ ?_ ?_
        | with_reducible first | exact BzZq.mk | refine Tw.ret ?_ | refine ImZq.i fun h => ?_ | refine IkZq.i fun hk => ?_)
      refine Tw.frz env 4 (by rfl) (by rfl) (by rfl) ?_ ?_ ?_
      · repeat' (first
          | with_reducible first | exact Conj.nil | refine Conj.cons rfl ?_ | refine Conj.same ?_ | refine Conj.ask ?_ ?_
          | ((with_reducible refine Due.mk ?_); (first | with_reducible rfl | omega | assumption | decide | ((try simp only [goS] at *) <;> (try intro h) <;> (try intro h') <;> (try simp only [goS] at *) <;> (try simp only [rdi, rdy, Int.toNat_natCast, Nat.add_zero] at *) <;> (try simp only [rng]) <;> (first | assumption | omega)) | (exact due_app0 (by omega)) | (exact due_app (by omega)) | (intros; simp; done) | (intros; simp; omega)))
          | with_reducible refine Due.mk ?_
          | omega)
      · repeat' (first
          | with_reducible first | exact Conj.nil | refine Conj.cons rfl ?_ | refine Conj.same ?_ | refine Conj.ask ?_ ?_
          | ((with_reducible refine Due.mk ?_); (first | with_reducible rfl | omega | assumption | decide | ((try simp only [goS] at *) <;> (try intro h) <;> (try intro h') <;> (try simp only [goS] at *) <;> (try simp only [rdi, rdy, Int.toNat_natCast, Nat.add_zero] at *) <;> (try simp only [rng]) <;> (first | assumption | omega)) | (exact due_app0 (by omega)) | (exact due_app (by omega)) | (intros; simp; done) | (intros; simp; omega)))
          | with_reducible refine Due.mk ?_
          | omega)
      refine Tw.loopK [] (fun i : Nat => i ≤ j % 4) (fun i => j % 4 - i) (fun i => [(29, .int .i64 ((j % 4 : Nat) : Int)), (30, .int .i64 i), (4, .ptr 2 0), (5, .ptr 3 0)])
        (fun i => [some (.cells [.int .i64 w, .int .i64 k, .lst Ey D]), some (.cells [.ptr 0 0]), some (.cells [.int .i64 0, .int .i64 0, .nils]), some (.cells [.int .i64 (rots (w, k, D) i).1, .int .i64 (rots (w, k, D) i).2.1, .lst Ey (rots (w, k, D) i).2.2])])
        ⟨0, by omega, TWk.fcanon env [some 0, some 1, some 2, some 3] (by rfl) ?_⟩ (fun i hi => ?_)
      · repeat' (first
          | exact e1.symm
          | exact rfl
          | exact ecut.symm
          | with_reducible first | exact Conj.nil | refine Conj.cons rfl ?_ | refine Conj.same ?_ | refine Conj.ask ?_ ?_
          | ((with_reducible refine Due.mk ?_); (first | with_reducible rfl | omega | assumption | decide | ((try simp only [goS] at *) <;> (try intro h) <;> (try intro h') <;> (try simp only [goS] at *) <;> (try simp only [rdi, rdy, Int.toNat_natCast, Nat.add_zero] at *) <;> (try simp only [rng]) <;> (first | assumption | omega)) | (exact due_app0 (by omega)) | (exact due_app (by omega)) | (intros; simp; done) | (intros; simp; omega)))
          | with_reducible refine Due.mk ?_
          | omega)
      rcases Nat.lt_or_ge i (j % 4) with hi | hi
      · have oki := rots_ok ok0 i
        have f2 := fromTurn2_h (rots (w, k, D) i).2.1 (rots (w, k, D) i).1 (rots (w, k, D) i).1 (rots (w, k, D) i).2.1 (rots (w, k, D) i).2.2 _ oki.h1 oki.w1 fun x y hx hy => turned2_c (rots (w, k, D) i).1 (rots (w, k, D) i).2.1 (rots (w, k, D) i).2.2 x y oki hx hy
        repeat' (first
          | ((with_reducible refine TOps.any ?_); refine TOps.callHE env [4] (f2) (by rfl) (by rfl) (by rfl) (by rfl) (by rfl) (by rfl) (by repeat' (first | exact trivial | refine ⟨rfl, ?_⟩)) ?_)
          | refine GZp_i_y ?_ ?_ ?_ ?_ ?_ ?_ ?_ ?_
          | with_reducible first | exact BzZq.mk | refine Tw.ret ?_ | refine ImZq.i fun h => ?_ | refine IkZq.i fun hk => ?_)
        refine ⟨i + 1, by omega, by omega, TWk.fcanon env [some 0, some 1, some 2, some 3] (by rfl) ?_⟩
        repeat' (first
          | exact rfl
          | with_reducible first | exact Conj.nil | refine Conj.cons rfl ?_ | refine Conj.same ?_ | refine Conj.ask ?_ ?_
          | ((with_reducible refine Due.mk ?_); (first | with_reducible rfl | omega | assumption | decide | ((try simp only [goS] at *) <;> (try intro h) <;> (try intro h') <;> (try simp only [goS] at *) <;> (try simp only [rdi, rdy, Int.toNat_natCast, Nat.add_zero] at *) <;> (try simp only [rng]) <;> (first | assumption | omega)) | (exact due_app0 (by omega)) | (exact due_app (by omega)) | (intros; simp; done) | (intros; simp; omega)))
          | with_reducible refine Due.mk ?_
          | omega)
      · obtain rfl : i = j % 4 := by omega
        repeat' (first
          | refine GZp_i_y ?_ ?_ ?_ ?_ ?_ ?_ ?_ ?_
          | with_reducible first | exact BzZq.mk | refine Tw.ret ?_ | refine ImZq.i fun h => ?_ | refine IkZq.i fun hk => ?_)
        refine ⟨?_, _, _, _, rfl⟩
        unfold trn enT
        rw [if_neg (show ¬ 4 ≤ j by omega)]
    · repeat' (first
        | ((with_reducible refine TDr.any ?_); refine TDr.callHD env [0, 1] (fc) (by first | rfl | assumption) (by rfl) (by rfl) (by rfl) (by rfl) (by rfl) (fun _ => by rfl) (fun _ => by repeat' (first | exact trivial | refine ⟨rfl, ?_⟩)) (fun _ => by rfl) (fun _ => by rfl) ?_)
        | refine GZp_i_y ?_ ?_ ?_ ?_ ?_ ?_ ?_ ?_
        | with_reducible first | exact BzZq.mk | refine Tw.ret ?_ | refine ImZq.i fun h => ?_ | refine IkZq.i fun hk => ?_)
      refine Tw.loopK [] (fun i : Nat => i ≤ j % 4) (fun i => j % 4 - i) (fun i => [(29, .int .i64 ((j % 4 : Nat) : Int)), (30, .int .i64 i), (4, .ptr 2 0), (5, .ptr 3 0)])
        (fun i => [some (.cells [.int .i64 w, .int .i64 k, .lst Ey D]), some (.cells [.ptr 0 0]), some (.cells [.int .i64 0, .int .i64 0, .nils]), some (.cells [.int .i64 (rots (mirD (w, k, D)) i).1, .int .i64 (rots (mirD (w, k, D)) i).2.1, .lst Ey (rots (mirD (w, k, D)) i).2.2])])
        ⟨0, by omega, TWk.fcanon env [some 0, some 1, some 2, some 3] (by rfl) ?_⟩ (fun i hi => ?_)
      · repeat' (first
          | exact e1.symm
          | exact rfl
          | exact ecut.symm
          | with_reducible first | exact Conj.nil | refine Conj.cons rfl ?_ | refine Conj.same ?_ | refine Conj.ask ?_ ?_
          | ((with_reducible refine Due.mk ?_); (first | with_reducible rfl | omega | assumption | decide | ((try simp only [goS] at *) <;> (try intro h) <;> (try intro h') <;> (try simp only [goS] at *) <;> (try simp only [rdi, rdy, Int.toNat_natCast, Nat.add_zero] at *) <;> (try simp only [rng]) <;> (first | assumption | omega)) | (exact due_app0 (by omega)) | (exact due_app (by omega)) | (intros; simp; done) | (intros; simp; omega)))
          | with_reducible refine Due.mk ?_
          | omega)
      rcases Nat.lt_or_ge i (j % 4) with hi | hi
      · have oki := rots_ok (mir_ok ok0) i
        have f2 := fromTurn2_h (rots (mirD (w, k, D)) i).2.1 (rots (mirD (w, k, D)) i).1 (rots (mirD (w, k, D)) i).1 (rots (mirD (w, k, D)) i).2.1 (rots (mirD (w, k, D)) i).2.2 _ oki.h1 oki.w1 fun x y hx hy => turned2_c (rots (mirD (w, k, D)) i).1 (rots (mirD (w, k, D)) i).2.1 (rots (mirD (w, k, D)) i).2.2 x y oki hx hy
        repeat' (first
          | ((with_reducible refine TOps.any ?_); refine TOps.callHE env [4] (f2) (by rfl) (by rfl) (by rfl) (by rfl) (by rfl) (by rfl) (by repeat' (first | exact trivial | refine ⟨rfl, ?_⟩)) ?_)
          | refine GZp_i_y ?_ ?_ ?_ ?_ ?_ ?_ ?_ ?_
          | with_reducible first | exact BzZq.mk | refine Tw.ret ?_ | refine ImZq.i fun h => ?_ | refine IkZq.i fun hk => ?_)
        refine ⟨i + 1, by omega, by omega, TWk.fcanon env [some 0, some 1, some 2, some 3] (by rfl) ?_⟩
        repeat' (first
          | exact rfl
          | with_reducible first | exact Conj.nil | refine Conj.cons rfl ?_ | refine Conj.same ?_ | refine Conj.ask ?_ ?_
          | ((with_reducible refine Due.mk ?_); (first | with_reducible rfl | omega | assumption | decide | ((try simp only [goS] at *) <;> (try intro h) <;> (try intro h') <;> (try simp only [goS] at *) <;> (try simp only [rdi, rdy, Int.toNat_natCast, Nat.add_zero] at *) <;> (try simp only [rng]) <;> (first | assumption | omega)) | (exact due_app0 (by omega)) | (exact due_app (by omega)) | (intros; simp; done) | (intros; simp; omega)))
          | with_reducible refine Due.mk ?_
          | omega)
      · obtain rfl : i = j % 4 := by omega
        repeat' (first
          | refine GZp_i_y ?_ ?_ ?_ ?_ ?_ ?_ ?_ ?_
          | with_reducible first | exact BzZq.mk | refine Tw.ret ?_ | refine ImZq.i fun h => ?_ | refine IkZq.i fun hk => ?_)
        refine ⟨?_, _, _, _, rfl⟩
        unfold trn enT
        rw [if_pos hj4]
  refine raw.wk fun v X h => ?_
  obtain ⟨rfl, a', b', c', rfl⟩ := h
  refine ⟨_, [some (.cells [.int .i64 w, .int .i64 k, .lst Ey D])], TWk.fcanon env [some 0] (F' := [(0, .agg [.int .i64 (trn (w, k, D) j).1, .int .i64 (trn (w, k, D) j).2.1, .lst Ey (trn (w, k, D) j).2.2])]) (by rfl) ?_, rfl, rfl⟩
  repeat' (first
    | with_reducible first | exact Conj.nil | refine Conj.cons rfl ?_ | refine Conj.same ?_ | refine Conj.ask ?_ ?_
    | ((with_reducible refine Due.mk ?_); (first | with_reducible rfl | omega | assumption | decide | ((try simp only [goS] at *) <;> (try intro h) <;> (try intro h') <;> (try simp only [goS] at *) <;> (try simp only [rdi, rdy, Int.toNat_natCast, Nat.add_zero] at *) <;> (try simp only [rng]) <;> (first | assumption | omega)) | (exact due_app0 (by omega)) | (exact due_app (by omega)) | (intros; simp; done) | (intros; simp; omega)))
    | with_reducible refine Due.mk ?_
    | omega)

theorem turn_c (w k : Nat) (D : List Int) (j : Nat) (ok : BmOk w k D) (hj : j < 8) :
    TC R Try.prog bitmap_Turn_f [.agg [.int .i64 w, .int .i64 k, .lst Ey D], .int .i64 j] [] (fun v X => v = .tup [.agg [.int .i64 (trn (w, k, D) j).1, .int .i64 (trn (w, k, D) j).2.1, .lst Ey (trn (w, k, D) j).2.2], .int .i64 0] ∧ X = []) := by
  have gc := turned_c w k D j ok hj
  have cc := bCheck_y w k D ok
  unfold enT at gc
  refine tc0 env bitmap_Turn_s (by rfl) ?_
  dsimp only [bitmap_Turn_c]
  repeat' (first
    | ((with_reducible refine TOps.any ?_); refine TOps.callE env (by rfl) (by rfl) (by rfl) ?_ (cc) (by rfl) ?_)
    | ((with_reducible refine TOps.any ?_); refine TOps.callHE env [0] (gc) (by rfl) (by rfl) (by rfl) (by rfl) (by rfl) (by rfl) (by repeat' (first | exact trivial | refine ⟨rfl, ?_⟩)) ?_)
    | refine GZp_i_y ?_ ?_ ?_ ?_ ?_ ?_ ?_ ?_
    | with_reducible first | exact BzZq.mk | refine Tw.ret ?_ | refine ImZq.i fun h => ?_ | refine IkZq.i fun hk => ?_)
  exact ⟨rfl, rfl, rfl⟩
end Go.Proofs.Ythkilkjngincpaa
