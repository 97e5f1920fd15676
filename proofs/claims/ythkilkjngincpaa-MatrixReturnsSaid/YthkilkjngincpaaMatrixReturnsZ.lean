/- The law MatrixReturns: a matrix code is read in all four orientations, although bytes and modules of the border are wrong. -/
import Derived.Test.YthkilkjngincpaaMtx8
import Derived.Test.YthkilkjngincpaaMtxW
import Derived.Test.YthkilkjngincpaaRTurn
import Derived.Test.YthkilkjngincpaaRMod
import Derived.Test.YthkilkjngincpaaXMatrixReturns0
import Derived.Test.YthkilkjngincpaaGo
namespace Go.Proofs.Ythkilkjngincpaa
open Go Go.Lite
set_option linter.unusedVariables false
set_option linter.unusedSimpArgs false
set_option maxRecDepth 100000
set_option maxHeartbeats 4000000
-- @simp rdi rdy rdo

structure RS where
  i : Nat
  o : List Int
structure RB where
  i : Nat
  left : Nat
  on : Nat → Bool
  wrg : Nat → Bool
structure RO where
  i : Nat
  on : Nat → Bool
theorem MatrixReturns_law (l : List Int) (c d : Int) (l3 l4 : List Int) (wl : l.length ≤ 9223372036854775807 ∧ ∀ y ∈ l, Wy y) (rc : rng .i64 c) (rd : rng .i64 d) (w3 : l3.length ≤ 9223372036854775807 ∧ ∀ y ∈ l3, Wi y) (w4 : l4.length ≤ 9223372036854775807 ∧ ∀ y ∈ l4, Wi y) :
    TC R Try.prog K2_MatrixReturns_f [.lst Ey l, .int .i64 c, .int .i64 d, .lst Ei l3, .lst Ei l4] [] (fun v X => v = .bool true ∧ X = []) := by
  simp only [rng] at rc rd
  obtain ⟨wl, vl⟩ := wl
  obtain ⟨w3, v3⟩ := w3
  obtain ⟨w4, v4⟩ := w4
  have mc := rMod_c c 13 (by unfold Due; omega)
  have md := rMod_c d 4 (by unfold Due; omega)
  obtain ⟨r, hr⟩ : ∃ r : Nat, c % 13 = r := ⟨(c % 13).toNat, by omega⟩
  obtain ⟨tn, htn⟩ : ∃ tn : Nat, d % 4 = tn := ⟨(d % 4).toNat, by omega⟩
  rw [hr] at mc
  rw [htn] at md
  have tn4 : tn < 4 := by omega
  obtain ⟨s, hs⟩ : ∃ s : Nat, s = 8 + 2 * r := ⟨_, rfl⟩
  have es : (8 : Int) + 2 * (r : Int) = (s : Int) := by omega
  have Sd : Side s := ⟨by omega, by omega⟩
  have hb := Sd.bd
  have sf := Side.facts Sd
  have sc := size_c s Sd
  obtain ⟨m, hm⟩ : ∃ m : Nat, min (l.length : Int) ((mAll s : Int) - (mPar s : Int) - 1) = m := ⟨(min (l.length : Int) ((mAll s : Int) - (mPar s : Int) - 1)).toNat, by omega⟩
  have b1 : ∀ i, i < m → 0 ≤ l.getD i 0 ∧ l.getD i 0 ≤ 255 := fun i hi => by have := vl _ (getD_mem (d := 0) (show i < l.length by omega)); simpa [Wy, rng] using this
  have e1 := bits_list (l := l) (n := m) (by omega) b1
  generalize (fun k => BitVec.ofInt 8 (l.getD k 0)) = g at *
  have ec := mEncode_c s m g Sd (by unfold Due; omega)
  rw [← e1] at ec
  have hA : mAll s = (s - 2) * (s - 2) / 8 := rfl
  have hW := mWord_ok (m := m) (g := g) Sd
  have hW0 := fun i => mWord_plain (s := s) (m := m) (g := g) (i := i)
  generalize mWord s m g = W at *
  have mb0 := MB.start (W := W) Sd
  have ok : BmOk s s (bm s s (mMod s W)) := bm_ok (by omega) (by omega)
  have kc := bCheck_y s s _ ok
  have ss : s * s ≤ 32 * 32 := Nat.mul_le_mul hb.2 hb.2
  have ess : (s : Int) * (s : Int) = ((s * s : Nat) : Int) := by simp
  have ss2 : (s - 2) * (s - 2) ≤ 30 * 30 := Nat.mul_le_mul (by omega) (by omega)
  have tlb : ∀ (n : Nat) (g : Nat → Bool), (tab n g).length = n := fun _ _ => tab_len
  have tlp : ∀ (n : Nat) (g : Nat → Nat), (tab n fun k => ((g k : Nat) : Int)).length = n := fun _ _ => tab_len
  refine tc0 env K2_MatrixReturns_s (by rfl) ?_
  dsimp only [K2_MatrixReturns_c]
  repeat' (first
    | ((with_reducible refine TOps.any ?_); refine TOps.callV env (by rfl) (by rfl) (by rfl) (matrixWorks_c) ?_)
    | ((with_reducible refine TOps.any ?_); refine TOps.callV env (by rfl) (by rfl) (by rfl) (mc) ?_)
    | ((with_reducible refine TOps.any ?_); refine TOps.callV env (by rfl) (by rfl) (by rfl) (md) ?_)
    | refine GZp_i_y_o ?_ ?_ ?_ ?_ ?_ ?_ ?_ ?_
    | with_reducible first | exact BzZq.mk | refine Tw.ret ?_ | refine ImZq.i fun h => ?_ | refine IkZq.i fun hk => ?_)
  rw [es]
  repeat' (first
    | ((with_reducible refine TOps.any ?_); refine TOps.callV env (by rfl) (by rfl) (by rfl) (sc) ?_)
    | refine GZy_i_y_o hm ?_ ?_ ?_ ?_ ?_ ?_ ?_ ?_
    | with_reducible first | exact BzZq.mk | refine Tw.ret ?_ | refine ImZq.i fun h => ?_ | refine IkZq.i fun hk => ?_)
  rw [hm]
  repeat' (first
    | ((with_reducible refine TOps.any ?_); refine TOps.callV env (by rfl) (by rfl) (by rfl) (ec) ?_)
    | ((with_reducible refine TOps.any ?_); refine TOps.callV env (by rfl) (by rfl) (by rfl) (kc) ?_)
    | refine GZy_i_y_o ess ?_ ?_ ?_ ?_ ?_ ?_ ?_ ?_
    | with_reducible first | exact BzZq.mk | refine Tw.ret ?_ | refine ImZq.i fun h => ?_ | refine IkZq.i fun hk => ?_)
  rw [ess]
  have hpx : ∀ x y : Nat, x < s → y < s → px s s (bm s s (mMod s W)) (x : Int) (y : Int) = mMod s W x y := fun x y hx hy => px_bm hx hy
  generalize bm s s (mMod s W) = B at *
  obtain ⟨fb, hfb⟩ : ∃ fb : Nat → Bool, fb = fun i => mMod s W (i % s) (i / s) := ⟨_, rfl⟩
  have hfb2 : ∀ i, fb i = mMod s W (i % s) (i / s) := fun i => by rw [hfb]
  rw [← hfb] at mb0
  refine Tw.loopK [0, 1, 2, 3, 4, 11, 12, 91] (fun q : RS => q.i ≤ s * s ∧ q.o.length + cI s q.i = q.i ∧ Outer s q.o) (fun q => s * s - q.i)
    (fun q => [(92, .int .i64 q.i), (15, .ptr 0 0), (17, .sla 1 1 0 (s * s)), (18, .sla 1 2 0 (cI s q.i)), (19, .sla 1 3 0 q.o.length)])
    (fun q => [some (.cells [.int .i64 s, .int .i64 s, .lst Ey B]), some (.arr Eo (tab (s * s) fun j => decide (j < q.i) && fb j)), some (.arr Ei (tab (cI s q.i) fun k => ((inK s k : Nat) : Int))), some (.arr Ei q.o)])
    ⟨⟨0, []⟩, ⟨Nat.zero_le _, by rw [cI_zero hb]; rfl, Outer.nil s⟩, TWk.fcanon env [some 0, some 1, none, none] (by rfl) ?_⟩ (fun q hq => ?_)
  · have z0 : (tab (s * s) fun j => decide (j < 0) && fb j) = List.replicate (s * s) false := (is_tab false (by simp) fun j hj => by rw [getD_repl hj, decide_eq_false (by omega)]; rfl).symm
    have z1 := cI_zero hb
    have z2 : (tab (cI s 0) fun k => ((inK s k : Nat) : Int)) = [] := by rw [z1]; rfl
    repeat' (first
      | exact z0
      | exact z0.symm
      | exact z1
      | exact z1.symm
      | exact z2
      | exact z2.symm
      | with_reducible first | exact Conj.nil | refine Conj.cons rfl ?_ | refine Conj.same ?_ | refine Conj.ask ?_ ?_
      | ((with_reducible refine Due.mk ?_); (first | with_reducible rfl | omega | assumption | decide | ((try simp only [goS] at *) <;> (try intro h) <;> (try intro h') <;> (try simp only [goS] at *) <;> (try simp only [rdi, rdy, rdo, Int.toNat_natCast, Nat.add_zero] at *) <;> (try simp only [rng]) <;> (first | assumption | omega)) | (exact due_app0 (by omega)) | (exact due_app (by omega)) | (intros; simp; done) | (intros; simp; omega)))
      | with_reducible refine Due.mk ?_
      | omega)
  obtain ⟨i, o⟩ := q
  dsimp only at hq ⊢
  obtain ⟨hi, hol, hop⟩ := hq
  rcases Nat.lt_or_ge i (s * s) with hi | hi
  · have hx : i % s < s := Nat.mod_lt _ (by omega)
    have hy : i / s < s := Nat.div_lt_of_lt_mul hi
    have q1 : rem (i : Int) (s : Int) = ((i % s : Nat) : Int) := by rw [rem_nn (by omega)]; simp
    have q2 : quo (i : Int) (s : Int) = ((i / s : Nat) : Int) := by rw [quo_nn (by omega)]; simp
    have hn := cI_next hb.1 hi
    have hk := @inK_cnt s (i % s) (i / s) hb.1 hx hy
    have hkey : i / s * s + i % s = i := by rw [Nat.mul_comm, Nat.div_add_mod]
    rw [hkey] at hk
    have rb := rBit_c s s B (rem (i : Int) (s : Int)) (quo (i : Int) (s : Int)) ok (by rw [q1]; generalize i % s = u at *; omega) (by rw [q2]; generalize i / s = v at *; omega)
    have e3 : px s s B (rem (i : Int) (s : Int)) (quo (i : Int) (s : Int)) = fb i := by rw [q1, q2, hpx _ _ hx hy, hfb2]
    rw [e3] at rb
    have bc := rBorder_c s (i % s) (i / s) (by unfold Due; omega) hx hy
    rw [← q1, ← q2] at bc
    have r1 : rng .i64 (rem (i : Int) (s : Int)) := by rw [q1]; simp only [rng]; generalize i % s = u at *; omega
    have r2 : rng .i64 (quo (i : Int) (s : Int)) := by rw [q2]; simp only [rng]; generalize i / s = v at *; omega
    have us : (tab (s * s) fun j => decide (j < i) && fb j).set i (fb i) = tab (s * s) fun j => decide (j < i + 1) && fb j := by
      rw [tab_upd false hi]
      refine tab_congr fun j _ => ?_
      by_cases e : j = i
      · subst e; rw [upd_same, decide_eq_true (by omega)]; rfl
      · rw [upd_ne e, decide_eq_decide.2 (show j < i ↔ j < i + 1 by omega)]
    cases hB : mBord s (i % s) (i / s) with
    | false =>
      rw [hB, if_neg (by simp)] at bc hn
      obtain ⟨k1, k2⟩ := hk hB
      have k1' : inK s (cI s i) = i := k1
      have ap : cut (tab (cI s i) fun k => ((inK s k : Nat) : Int)) 0 (cI s i) ++ cut [(i : Int)] 0 1 = tab (cI s (i + 1)) fun k => ((inK s k : Nat) : Int) := by
        rw [show cut (tab (cI s i) fun k => ((inK s k : Nat) : Int)) 0 (cI s i) = tab (cI s i) fun k => ((inK s k : Nat) : Int) from cut_tab, cut_one, hn, tab_succ, k1']
      have ci : cI s i + 1 = cI s (i + 1) := hn.symm
      have cb : cI s i ≤ i := by omega
      repeat' (first
        | ((with_reducible refine TDr.any ?_); refine TDr.callE env (by first | rfl | assumption) (by rfl) (by rfl) ?_ (rb) (by rfl) (by rfl) ?_)
        | ((with_reducible refine TDr.any ?_); refine TDr.callE env (by first | rfl | assumption) (by rfl) (by rfl) ?_ (bc) (by rfl) (by rfl) ?_)
        | exact r1
        | exact r2
        | refine GZy_i_y_o (And.intro tlb tlp) ?_ ?_ ?_ ?_ ?_ ?_ ?_ ?_
        | with_reducible first | exact BzZq.mk | refine Tw.ret ?_ | refine ImZq.i fun h => ?_ | refine IkZq.i fun hk => ?_)
      refine ⟨⟨i + 1, o⟩, ⟨by dsimp only; omega, by dsimp only; omega, hop⟩, by dsimp only; omega, TWk.fcanon env [some 0, some 1, some 5, some 3] (by rfl) ?_⟩
      repeat' (first
        | exact us
        | exact us.symm
        | exact ap
        | exact ap.symm
        | exact ci
        | exact ci.symm
        | with_reducible first | exact Conj.nil | refine Conj.cons rfl ?_ | refine Conj.same ?_ | refine Conj.ask ?_ ?_
        | ((with_reducible refine Due.mk ?_); (first | with_reducible rfl | omega | assumption | decide | ((try simp only [goS] at *) <;> (try intro h) <;> (try intro h') <;> (try simp only [goS] at *) <;> (try simp only [rdi, rdy, rdo, Int.toNat_natCast, Nat.add_zero] at *) <;> (try simp only [rng]) <;> (first | assumption | omega)) | (exact due_app0 (by omega)) | (exact due_app (by omega)) | (intros; simp; done) | (intros; simp; omega)))
        | with_reducible refine Due.mk ?_
        | omega)
    | true =>
      rw [hB, if_pos rfl] at bc hn
      have ol2 : (o ++ [(i : Int)]).length = o.length + 1 := by simp
      have ap : cut o 0 o.length ++ cut [(i : Int)] 0 1 = o ++ [(i : Int)] := by rw [show cut o 0 o.length = o from cut_all rfl, cut_one]
      have ob : o.length ≤ 1024 := by omega
      cases hD : mDark s (i % s) (i / s) with
      | true =>
        rw [hD, if_pos rfl] at bc
        repeat' (first
          | ((with_reducible refine TDr.any ?_); refine TDr.callE env (by first | rfl | assumption) (by rfl) (by rfl) ?_ (rb) (by rfl) (by rfl) ?_)
          | ((with_reducible refine TDr.any ?_); refine TDr.callE env (by first | rfl | assumption) (by rfl) (by rfl) ?_ (bc) (by rfl) (by rfl) ?_)
          | exact r1
          | exact r2
          | refine GZy_i_y_o (And.intro tlb tlp) ?_ ?_ ?_ ?_ ?_ ?_ ?_ ?_
          | with_reducible first | exact BzZq.mk | refine Tw.ret ?_ | refine ImZq.i fun h => ?_ | refine IkZq.i fun hk => ?_)
        refine ⟨⟨i + 1, o ++ [(i : Int)]⟩, ⟨by dsimp only; omega, by dsimp only; rw [ol2, hn]; omega, hop.snoc hi hB⟩, by dsimp only; omega, TWk.fcanon env [some 0, some 1, some 2, some 5] (by rfl) ?_⟩
        dsimp only
        rw [ol2, hn]
        repeat' (first
          | exact us
          | exact us.symm
          | exact ap
          | exact ap.symm
          | refine GZ_i_y_o ?_ ?_ ?_ ?_ ?_ ?_ ?_ ?_
          | with_reducible first | exact BzZq.mk | refine Tw.ret ?_ | refine ImZq.i fun h => ?_ | refine IkZq.i fun hk => ?_)
      | false =>
        rw [hD, if_neg (by simp)] at bc
        repeat' (first
          | ((with_reducible refine TDr.any ?_); refine TDr.callE env (by first | rfl | assumption) (by rfl) (by rfl) ?_ (rb) (by rfl) (by rfl) ?_)
          | ((with_reducible refine TDr.any ?_); refine TDr.callE env (by first | rfl | assumption) (by rfl) (by rfl) ?_ (bc) (by rfl) (by rfl) ?_)
          | exact r1
          | exact r2
          | refine GZy_i_y_o (And.intro tlb tlp) ?_ ?_ ?_ ?_ ?_ ?_ ?_ ?_
          | with_reducible first | exact BzZq.mk | refine Tw.ret ?_ | refine ImZq.i fun h => ?_ | refine IkZq.i fun hk => ?_)
        refine ⟨⟨i + 1, o ++ [(i : Int)]⟩, ⟨by dsimp only; omega, by dsimp only; rw [ol2, hn]; omega, hop.snoc hi hB⟩, by dsimp only; omega, TWk.fcanon env [some 0, some 1, some 2, some 5] (by rfl) ?_⟩
        dsimp only
        rw [ol2, hn]
        repeat' (first
          | exact us
          | exact us.symm
          | exact ap
          | exact ap.symm
          | refine GZ_i_y_o ?_ ?_ ?_ ?_ ?_ ?_ ?_ ?_
          | with_reducible first | exact BzZq.mk | refine Tw.ret ?_ | refine ImZq.i fun h => ?_ | refine IkZq.i fun hk => ?_)
  obtain rfl : i = s * s := by omega
  have cA := cI_all hb.1
  have oA : (tab (s * s) fun j => decide (j < s * s) && fb j) = tab (s * s) fb := tab_congr fun j hj => by rw [decide_eq_true hj]; rfl
  rw [oA, cA]
  have ol : 1 ≤ o.length ∧ o.length ≤ 1024 := by
    rw [cA] at hol
    have : (s - 2 + 1) * (s - 2 + 1) ≤ s * s := Nat.mul_le_mul (by omega) (by omega)
    have h2 : (s - 2 + 1) * (s - 2 + 1) = (s - 2) * (s - 2) + 2 * (s - 2) + 1 := by rw [Nat.add_mul, Nat.mul_add, Nat.mul_add]; omega
    omega
  have qp : quo ((mPar s : Nat) : Int) 2 = ((mPar s / 2 : Nat) : Int) := by rw [quo_nn (by omega)]; omega
  have A8 : 8 * mAll s ≤ (s - 2) * (s - 2) := by omega
  generalize hAA : mAll s = A at *
  generalize hPP : mPar s = P at *
  repeat' (first
    | refine GZy_i_y_o qp ?_ ?_ ?_ ?_ ?_ ?_ ?_ ?_
    | with_reducible first | exact BzZq.mk | refine Tw.ret ?_ | refine ImZq.i fun h => ?_ | refine IkZq.i fun hk => ?_)
  rw [qp]
  refine Tw.loopK [0, 1, 2, 4, 11, 12, 128, 129] (fun q : RB => q.i ≤ l3.length ∧ MB s W q.on q.wrg q.left) (fun q => l3.length - q.i)
    (fun q => [(130, .int .i64 q.i), (22, .int .i64 q.left), (17, .sla 1 0 0 (s * s)), (18, .sla 1 1 0 ((s - 2) * (s - 2))), (19, .sla 1 2 0 o.length), (21, .sla 1 3 0 A)])
    (fun q => [some (.arr Eo (tab (s * s) q.on)), some (.arr Ei (tab ((s - 2) * (s - 2)) fun k => ((inK s k : Nat) : Int))), some (.arr Ei o), some (.arr Eo (tab A q.wrg))])
    ⟨⟨0, P / 2, fb, fun _ => false⟩, ⟨Nat.zero_le _, mb0⟩, TWk.fcanon env [some 1, some 2, some 3, some 4] (by rfl) ?_⟩ (fun q hq => ?_)
  · have z0 : (tab A fun _ => false) = List.replicate A false := tab_repl.symm
    repeat' (first
      | exact z0
      | exact z0.symm
      | with_reducible first | exact Conj.nil | refine Conj.cons rfl ?_ | refine Conj.same ?_ | refine Conj.ask ?_ ?_
      | ((with_reducible refine Due.mk ?_); (first | with_reducible rfl | omega | assumption | decide | ((try simp only [goS] at *) <;> (try intro h) <;> (try intro h') <;> (try simp only [goS] at *) <;> (try simp only [rdi, rdy, rdo, Int.toNat_natCast, Nat.add_zero] at *) <;> (try simp only [rng]) <;> (first | assumption | omega)) | (exact due_app0 (by omega)) | (exact due_app (by omega)) | (intros; simp; done) | (intros; simp; omega)))
      | with_reducible refine Due.mk ?_
      | omega)
  obtain ⟨i, left, on, wrg⟩ := q
  dsimp only at hq ⊢
  obtain ⟨hi, mb⟩ := hq
  have hcnt := mb.cnt
  rw [hPP] at hcnt
  rcases Nat.lt_or_ge i l3.length with hi | hi
  · have p1 : rng .i64 (l3.getD i 0) := by have := v3 _ (getD_mem (d := 0) hi); simpa [Wi] using this
    simp only [rng] at p1
    have m3 := rMod_c (l3.getD i 0) (8 * (A : Int)) (by unfold Due; omega)
    obtain ⟨k, hk⟩ : ∃ k : Nat, l3.getD i 0 % (8 * (A : Int)) = k := ⟨(l3.getD i 0 % (8 * (A : Int))).toNat, by have := Int.emod_nonneg (l3.getD i 0) (show 8 * (A : Int) ≠ 0 by omega); omega⟩
    have hk8 : k < 8 * A := by have := Int.emod_lt_of_pos (l3.getD i 0) (show (0 : Int) < 8 * (A : Int) by omega); omega
    rw [hk] at m3
    have q3 : quo (k : Int) 8 = ((k / 8 : Nat) : Int) := by rw [quo_nn (by omega)]; omega
    have gw : (tab A wrg).getD (k / 8) false = wrg (k / 8) := tab_get (by omega)
    obtain ⟨x1, x2, x3, x4⟩ := inK_xy (s := s) (k := k) hb.1 (by omega)
    have gi : (tab ((s - 2) * (s - 2)) fun k => ((inK s k : Nat) : Int)).getD k 0 = ((inK s k : Nat) : Int) := tab_get (by omega)
    have go : (tab (s * s) on).getD (inK s k) false = on (inK s k) := tab_get x3
    have us : (tab (s * s) on).set (((tab ((s - 2) * (s - 2)) fun k => ((inK s k : Nat) : Int)).getD (k : Int).toNat 0).toNat + 0) (!(tab (s * s) on).getD (((tab ((s - 2) * (s - 2)) fun k => ((inK s k : Nat) : Int)).getD (k : Int).toNat 0).toNat + 0) false) = tab (s * s) (upd on (inK s k) (!on (inK s k))) := by
      rw [Int.toNat_natCast, gi, Int.toNat_natCast, Nat.add_zero, go, tab_upd false x3]
    have q4 : rng .i64 (quo (k : Int) 8) := by rw [q3]; simp only [rng]; omega
    have ws : (tab A wrg).set ((quo (k : Int) 8).toNat + 0) true = tab A (upd wrg (k / 8) true) := by
      rw [q3, Int.toNat_natCast, Nat.add_zero, tab_upd false (by omega)]
    cases hw : wrg (k / 8) with
    | true =>
      rw [hw] at gw
      have nx := mb.keep (v := !on (inK s k)) Sd (by rw [hAA]; exact hk8) hw
      repeat' (first
        | ((with_reducible refine TOps.any ?_); refine TOps.callV env (by rfl) (by rfl) (by rfl) (m3) ?_)
        | exact q4
        | refine GZy_i_y_o (And.intro tlb (And.intro tlp (And.intro q3 (And.intro gw (And.intro gi go))))) ?_ ?_ ?_ ?_ ?_ ?_ ?_ ?_
        | with_reducible first | exact BzZq.mk | refine Tw.ret ?_ | refine ImZq.i fun h => ?_ | refine IkZq.i fun hk => ?_)
      refine ⟨⟨i + 1, left, upd on (inK s k) (!on (inK s k)), wrg⟩, ⟨by dsimp only; omega, nx⟩, by dsimp only; omega, TWk.fcanon env [some 0, some 1, some 2, some 3] (by rfl) ?_⟩
      repeat' (first
        | exact us
        | exact us.symm
        | with_reducible first | exact Conj.nil | refine Conj.cons rfl ?_ | refine Conj.same ?_ | refine Conj.ask ?_ ?_
        | ((with_reducible refine Due.mk ?_); (first | with_reducible rfl | omega | assumption | decide | ((try simp only [goS] at *) <;> (try intro h) <;> (try intro h') <;> (try simp only [goS] at *) <;> (try simp only [rdi, rdy, rdo, Int.toNat_natCast, Nat.add_zero] at *) <;> (try simp only [rng]) <;> (first | assumption | omega)) | (exact due_app0 (by omega)) | (exact due_app (by omega)) | (intros; simp; done) | (intros; simp; omega)))
        | with_reducible refine Due.mk ?_
        | omega)
    | false =>
      rw [hw] at gw
      cases left with
      | zero =>
        repeat' (first
          | ((with_reducible refine TOps.any ?_); refine TOps.callV env (by rfl) (by rfl) (by rfl) (m3) ?_)
          | exact q4
          | refine GZy_i_y_o (And.intro tlb (And.intro tlp (And.intro q3 (And.intro gw (And.intro gi go))))) ?_ ?_ ?_ ?_ ?_ ?_ ?_ ?_
          | with_reducible first | exact BzZq.mk | refine Tw.ret ?_ | refine ImZq.i fun h => ?_ | refine IkZq.i fun hk => ?_)
        refine ⟨⟨i + 1, 0, on, wrg⟩, ⟨by dsimp only; omega, mb⟩, by dsimp only; omega, TWk.fcanon env [some 0, some 1, some 2, some 3] (by rfl) ?_⟩
        repeat' (first
          | with_reducible first | exact Conj.nil | refine Conj.cons rfl ?_ | refine Conj.same ?_ | refine Conj.ask ?_ ?_
          | ((with_reducible refine Due.mk ?_); (first | with_reducible rfl | omega | assumption | decide | ((try simp only [goS] at *) <;> (try intro h) <;> (try intro h') <;> (try simp only [goS] at *) <;> (try simp only [rdi, rdy, rdo, Int.toNat_natCast, Nat.add_zero] at *) <;> (try simp only [rng]) <;> (first | assumption | omega)) | (exact due_app0 (by omega)) | (exact due_app (by omega)) | (intros; simp; done) | (intros; simp; omega)))
          | with_reducible refine Due.mk ?_
          | omega)
      | succ left =>
        have mb2 := mb.more Sd (by rw [hAA]; exact hk8) hw
        have nx := mb2.keep (v := !on (inK s k)) Sd (by rw [hAA]; exact hk8) upd_same
        have z : ((left + 1 : Nat) : Int) - 1 = (left : Int) := by omega
        repeat' (first
          | ((with_reducible refine TOps.any ?_); refine TOps.callV env (by rfl) (by rfl) (by rfl) (m3) ?_)
          | exact q4
          | refine GZy_i_y_o (And.intro tlb (And.intro tlp (And.intro q3 (And.intro gw (And.intro gi go))))) ?_ ?_ ?_ ?_ ?_ ?_ ?_ ?_
          | with_reducible first | exact BzZq.mk | refine Tw.ret ?_ | refine ImZq.i fun h => ?_ | refine IkZq.i fun hk => ?_)
        refine ⟨⟨i + 1, left, upd on (inK s k) (!on (inK s k)), upd wrg (k / 8) true⟩, ⟨by dsimp only; omega, nx⟩, by dsimp only; omega, TWk.fcanon env [some 0, some 1, some 2, some 3] (by rfl) ?_⟩
        repeat' (first
          | exact us
          | exact us.symm
          | exact ws
          | exact ws.symm
          | exact z
          | exact z.symm
          | with_reducible first | exact Conj.nil | refine Conj.cons rfl ?_ | refine Conj.same ?_ | refine Conj.ask ?_ ?_
          | ((with_reducible refine Due.mk ?_); (first | with_reducible rfl | omega | assumption | decide | ((try simp only [goS] at *) <;> (try intro h) <;> (try intro h') <;> (try simp only [goS] at *) <;> (try simp only [rdi, rdy, rdo, Int.toNat_natCast, Nat.add_zero] at *) <;> (try simp only [rng]) <;> (first | assumption | omega)) | (exact due_app0 (by omega)) | (exact due_app (by omega)) | (intros; simp; done) | (intros; simp; omega)))
          | with_reducible refine Due.mk ?_
          | omega)
  obtain rfl : i = l3.length := by omega
  have mo0 := MO.start (s := s) (on := on) mb.bord
  have qs : quo (s : Int) 4 = ((s / 4 : Nat) : Int) := by rw [quo_nn (by omega)]; omega
  obtain ⟨n4, hn4⟩ : ∃ n4 : Nat, min (l4.length : Int) ((s / 4 : Nat) : Int) = n4 := ⟨(min (l4.length : Int) ((s / 4 : Nat) : Int)).toNat, by omega⟩
  have t4 : (l4.take n4).length = n4 := by rw [List.length_take]; omega
  have q5 : rng .i64 (quo (s : Int) 4) := by rw [qs]; simp only [rng]; omega
  repeat' (first
    | exact q5
    | refine GZy_i_y_o qs ?_ ?_ ?_ ?_ ?_ ?_ ?_ ?_
    | with_reducible first | exact BzZq.mk | refine Tw.ret ?_ | refine ImZq.i fun h => ?_ | refine IkZq.i fun hk => ?_)
  rw [qs, hn4, Int.toNat_natCast, t4]
  refine Tw.loopK [0, 1, 2, 12, 173, 174] (fun q : RO => q.i ≤ n4 ∧ MO s on q.on q.i) (fun q => n4 - q.i)
    (fun q => [(175, .int .i64 q.i), (17, .sla 1 0 0 (s * s)), (19, .sla 1 1 0 o.length)])
    (fun q => [some (.arr Eo (tab (s * s) q.on)), some (.arr Ei o)])
    ⟨⟨0, on⟩, ⟨Nat.zero_le _, mo0⟩, TWk.fcanon env [some 0, some 2] (by rfl) ?_⟩ (fun q hq => ?_)
  · repeat' (first
      | with_reducible first | exact Conj.nil | refine Conj.cons rfl ?_ | refine Conj.same ?_ | refine Conj.ask ?_ ?_
      | ((with_reducible refine Due.mk ?_); (first | with_reducible rfl | omega | assumption | decide | ((try simp only [goS] at *) <;> (try intro h) <;> (try intro h') <;> (try simp only [goS] at *) <;> (try simp only [rdi, rdy, rdo, Int.toNat_natCast, Nat.add_zero] at *) <;> (try simp only [rng]) <;> (first | assumption | omega)) | (exact due_app0 (by omega)) | (exact due_app (by omega)) | (intros; simp; done) | (intros; simp; omega)))
      | with_reducible refine Due.mk ?_
      | omega)
  obtain ⟨i, on2⟩ := q
  dsimp only at hq ⊢
  obtain ⟨hi, mo⟩ := hq
  rcases Nat.lt_or_ge i n4 with hi | hi
  · have gl : (l4.take n4).getD i 0 = l4.getD i 0 := by rw [List.getD_eq_getElem?_getD, List.getElem?_take, if_pos hi, ← List.getD_eq_getElem?_getD]
    have p1 : rng .i64 (l4.getD i 0) := by have := v4 _ (getD_mem (d := 0) (show i < l4.length by omega)); simpa [Wi] using this
    simp only [rng] at p1
    have m3 := rMod_c (l4.getD i 0) (o.length : Int) (by unfold Due; omega)
    obtain ⟨k, hk⟩ : ∃ k : Nat, l4.getD i 0 % (o.length : Int) = k := ⟨(l4.getD i 0 % (o.length : Int)).toNat, by have := Int.emod_nonneg (l4.getD i 0) (show (o.length : Int) ≠ 0 by omega); omega⟩
    have hk8 : k < o.length := by have := Int.emod_lt_of_pos (l4.getD i 0) (show (0 : Int) < (o.length : Int) by omega); omega
    rw [hk, ← gl] at m3
    obtain ⟨a, ga, ha, hB⟩ := hop.at_ k hk8
    have go : (tab (s * s) on2).getD a false = on2 a := tab_get ha
    have us : (tab (s * s) on2).set ((o.getD (k : Int).toNat 0).toNat + 0) (!(tab (s * s) on2).getD ((o.getD (k : Int).toNat 0).toNat + 0) false) = tab (s * s) (upd on2 a (!on2 a)) := by
      rw [Int.toNat_natCast, ga, Int.toNat_natCast, Nat.add_zero, go, tab_upd false ha]
    have nx := mo.step (v := !on2 a) hB
    repeat' (first
      | ((with_reducible refine TDr.any ?_); refine TDr.callE env (by first | rfl | assumption) (by rfl) (by rfl) ?_ (m3) (by rfl) (by rfl) ?_)
      | refine GZy_i_y_o (And.intro t4 (And.intro ga (And.intro go tlb))) ?_ ?_ ?_ ?_ ?_ ?_ ?_ ?_
      | with_reducible first | exact BzZq.mk | refine Tw.ret ?_ | refine ImZq.i fun h => ?_ | refine IkZq.i fun hk => ?_)
    refine ⟨⟨i + 1, upd on2 a (!on2 a)⟩, ⟨by dsimp only; omega, nx⟩, by dsimp only; omega, TWk.fcanon env [some 0, some 1] (by rfl) ?_⟩
    repeat' (first
      | exact us
      | exact us.symm
      | with_reducible first | exact Conj.nil | refine Conj.cons rfl ?_ | refine Conj.same ?_ | refine Conj.ask ?_ ?_
      | ((with_reducible refine Due.mk ?_); (first | with_reducible rfl | omega | assumption | decide | ((try simp only [goS] at *) <;> (try intro h) <;> (try intro h') <;> (try simp only [goS] at *) <;> (try simp only [rdi, rdy, rdo, Int.toNat_natCast, Nat.add_zero] at *) <;> (try simp only [rng]) <;> (first | assumption | omega)) | (exact due_app0 (by omega)) | (exact due_app (by omega)) | (intros; simp; done) | (intros; simp; omega)))
      | with_reducible refine Due.mk ?_
      | omega)
  obtain rfl : i = n4 := by omega
  obtain ⟨bt1, bt2, bt3⟩ := back_turn Sd mo (by omega) tn4
  have fw := few_wrong Sd mb mo
  have okB : BmOk s s (bm s s (fOn s on2)) := bm_ok (by omega) (by omega)
  have dr := drawn_c s s (tab (s * s) on2) (by unfold Due; omega) (by unfold Due; omega) (by unfold Due; rw [tab_len])
  rw [bm_congr (g := fOn s on2) fun x y hx hy => by
    unfold fOn
    have : (y + 1) * s ≤ s * s := Nat.mul_le_mul_right _ hy
    rw [Nat.add_mul, Nat.one_mul] at this
    exact tab_get (by omega)] at dr
  have tc := turn_c s s (bm s s (fOn s on2)) tn okB (by omega)
  obtain ⟨sq1, sq2⟩ := trn_sq s (bm s s (fOn s on2)) tn
  have okT : BmOk s s (trn (s, s, bm s s (fOn s on2)) tn).2.2 := by have := trn_ok (t := (s, s, bm s s (fOn s on2))) okB tn; unfold Ok3 at this; rw [sq1, sq2] at this; exact this
  rw [sq1, sq2] at tc
  generalize hT : (trn (s, s, bm s s (fOn s on2)) tn).2.2 = T at *
  have rdw : (bm (8 * mAll s) 1 fun i _ => mIn s (mPix s T (mBest s T 4).1) i) = btab (mAll s) (mRd s on2) := by
    rw [← mRd_tab, bt1]
    refine bm_congr fun x y hx hy => ?_
    have hx2 : x < (s - 2) * (s - 2) := by omega
    have d1 := Nat.mod_lt x (show 0 < s - 2 by omega)
    have d2 : x / (s - 2) < s - 2 := Nat.div_lt_of_lt_mul hx2
    unfold mIn
    generalize x % (s - 2) = u at *
    generalize x / (s - 2) = v at *
    exact bt3 _ _ (by omega) (by omega)
  rw [hAA] at rdw fw
  have wrc := rsDecN_c A P 400 (mRd s on2) W (fun _ => 0) (by unfold Due; omega) hW (fun i hi => absurd hi (by omega)) (fun i j hi => absurd hi (by omega)) (by
    unfold Due
    have : (bad A (fun j => mRd s on2 j ^^^ W j) (erK (fun _ => 0) 0)).length = cntB (fun j => decide (mRd s on2 j ^^^ W j ≠ 0#8)) A := by
      show cntB (fun j => decide (mRd s on2 j ^^^ W j ≠ 0#8) && !erK (fun _ => 0) 0 j) A = _
      exact cntB_congr fun j _ => by simp [erK]
    rw [this]; omega)
  rw [← rdw] at wrc
  have w0 : (btab A W).getD 0 0 = m := by
    rw [btab_get (by omega), hW0 0 (by omega)]
    unfold mPlain by8
    rw [if_pos rfl, BitVec.toNat_ofNat]; omega
  have dcd := mDecode_c s T (btab A W) (cntB (fun j => decide (mRd s on2 j ^^^ W j ≠ 0#8)) A) m Sd okT (by unfold Due; rw [bt1]; exact bt2) (by rw [hAA, hPP]; exact wrc) (by unfold Due; rw [hAA]; exact btab_len) w0 (by unfold Due; omega) (fun i h1 h2 => by
    rw [btab_get (by omega), hW0 i (by omega)]
    unfold mPlain
    rw [if_neg (by omega), if_neg (by omega)]; rfl)
  rw [bt1] at dcd
  have ct : cut (tab (s * s) on2) 0 (s * s) = tab (s * s) on2 := cut_tab
  repeat' (first
    | refine GZp_i_y_o ?_ ?_ ?_ ?_ ?_ ?_ ?_ ?_
    | with_reducible first | exact BzZq.mk | refine Tw.ret ?_ | refine ImZq.i fun h => ?_ | refine IkZq.i fun hk => ?_)
  refine TOps.frz env 0 (by rfl) (by rfl) (by rfl) ?_ ?_ ?_
  · repeat' (first
      | with_reducible first | exact Conj.nil | refine Conj.cons rfl ?_ | refine Conj.same ?_ | refine Conj.ask ?_ ?_
      | ((with_reducible refine Due.mk ?_); (first | with_reducible rfl | omega | assumption | decide | ((try simp only [goS] at *) <;> (try intro h) <;> (try intro h') <;> (try simp only [goS] at *) <;> (try simp only [rdi, rdy, rdo, tlb, Int.toNat_natCast, Nat.add_zero] at *) <;> (try simp only [rng]) <;> (first | assumption | omega)) | (exact due_app0 (by omega)) | (exact due_app (by omega)) | (intros; simp; done) | (intros; simp; omega)))
      | with_reducible refine Due.mk ?_
      | omega)
  · repeat' (first
      | with_reducible first | exact Conj.nil | refine Conj.cons rfl ?_ | refine Conj.same ?_ | refine Conj.ask ?_ ?_
      | ((with_reducible refine Due.mk ?_); (first | with_reducible rfl | omega | assumption | decide | ((try simp only [goS] at *) <;> (try intro h) <;> (try intro h') <;> (try simp only [goS] at *) <;> (try simp only [rdi, rdy, rdo, tlb, Int.toNat_natCast, Nat.add_zero] at *) <;> (try simp only [rng]) <;> (first | assumption | omega)) | (exact due_app0 (by omega)) | (exact due_app (by omega)) | (intros; simp; done) | (intros; simp; omega)))
      | with_reducible refine Due.mk ?_
      | omega)
  rw [ct]
  have sl : cut (btab A W) 1 m = List.take (m : Int).toNat l := by
    rw [Int.toNat_natCast, e1]
    refine is_tab 0 (by show ((List.drop 1 (btab A W)).take m).length = m; rw [List.length_take, List.length_drop, btab_len]; omega) fun i hi => ?_
    show ((List.drop 1 (btab A W)).take m).getD i 0 = _
    rw [getD_sub hi, btab_get (by omega), hW0 _ (by omega)]
    unfold mPlain
    rw [if_neg (by omega), if_pos (by omega), show 1 + i - 1 = i by omega]
  have tb : ∀ i, i < (List.take (m : Int).toNat l).length → 0 ≤ (List.take (m : Int).toNat l).getD i 0 ∧ (List.take (m : Int).toNat l).getD i 0 ≤ 255 := by
    rw [Int.toNat_natCast, e1, btab_len]
    intro i hi
    rw [btab_get hi]; exact by8_bd _
  have sb := sameBytes_c (List.take (m : Int).toNat l) (List.take (m : Int).toNat l) tb tb
  rw [decide_eq_true rfl] at sb
  have sb2 : TC R Try.prog R2_SameBytes_f [.lst Ey (cut (btab A W) 1 m), .lst Ey (List.take (m : Int).toNat l)] [] (fun v X => v = .bool true ∧ X = []) := by rw [sl]; exact sb
  have re : rem (4 - (tn : Int)) 4 = (((4 - tn) % 4 : Nat) : Int) := by rw [show 4 - (tn : Int) = ((4 - tn : Nat) : Int) by omega, rem_nn (by omega)]; omega
  have g1 : rng .i64 (quo ((P : Nat) : Int) 2) := by rw [qp]; simp only [rng]; omega
  have g2 : rng .i64 (rem (4 - (tn : Int)) 4) := by rw [re]; simp only [rng]; omega
  repeat' (first
    | ((with_reducible refine TOps.any ?_); refine TOps.callV env (by rfl) (by rfl) (by rfl) (dr) ?_)
    | ((with_reducible refine TOps.any ?_); refine TOps.callV env (by rfl) (by rfl) (by rfl) (tc) ?_)
    | ((with_reducible refine TOps.any ?_); refine TOps.callV env (by rfl) (by rfl) (by rfl) (dcd) ?_)
    | ((with_reducible refine TOps.any ?_); refine TOps.callV env (by rfl) (by rfl) (by rfl) (sb2) ?_)
    | exact g1
    | exact g2
    | refine GZy_i_y_o (And.intro qp re) ?_ ?_ ?_ ?_ ?_ ?_ ?_ ?_
    | with_reducible first | exact BzZq.mk | refine Tw.ret ?_ | refine ImZq.i fun h => ?_ | refine IkZq.i fun hk => ?_)
  rw [qp, re, decide_eq_true (show (cntB (fun j => decide (mRd s on2 j ^^^ W j ≠ 0#8)) A : Int) ≤ ((P / 2 : Nat) : Int) by omega), decide_eq_true (show (((4 - tn) % 4, mWr s (mPix s T ((4 - tn) % 4)) s).1 : Int) = (((4 - tn) % 4 : Nat) : Int) from rfl)]
  exact ⟨rfl, rfl, rfl⟩
end Go.Proofs.Ythkilkjngincpaa
