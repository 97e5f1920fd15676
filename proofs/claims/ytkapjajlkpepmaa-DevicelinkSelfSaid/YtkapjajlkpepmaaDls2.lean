/- Links from a device to itself: a node. -/
import Derived.Test.YtkapjajlkpepmaaDls1
import Derived.Test.YtkapjajlkpepmaaGridMk
import Derived.Test.YtkapjajlkpepmaaInv4
import Derived.Test.YtkapjajlkpepmaaGo
namespace Go.Proofs.Ytkapjajlkpepmaa
open Go Go.Lite
set_option linter.unusedVariables false
set_option linter.unusedSimpArgs false
set_option maxRecDepth 100000
set_option maxHeartbeats 4000000
-- @macs GridMk
-- @simp rdi rd2i rdL2iJ

/-- The tones of a node. -/
def ownT (n st : Nat) (y : Nat → Nat) : List Nat := tab n fun k => y k * st
noncomputable def qOf (p : Prf) (n s st : Nat) (y : Nat → Nat) : Ask := askOf n (pcol p n s (ownT n st y) 0) (pcol p n s (ownT n st y) 1) (pcol p n s (ownT n st y) 2) st 2040
theorem own_ok {n sz st : Nat} {y : Nat → Nat} (h : szOk sz st) (hy : ∀ k, k < n → y k < sz) : (ownT n st y).length = n ∧ ∀ k, k < n → (ownT n st y).getD k 0 ≤ 255 := ⟨tab_len, fun k hk => by
  unfold ownT
  rw [tab_get hk]
  have := hy k hk
  unfold szOk at h
  rcases h with ⟨rfl, rfl⟩ | ⟨rfl, rfl⟩ | ⟨rfl, rfl⟩ <;> omega⟩
/-- The node is found again. -/
structure NodeOk (p : Prf) (n s st : Nat) (y : Nat → Nat) (zs : List Nat) : Prop where
  len : zs.length = n
  bd : ∀ k, k < n → zs.getD k 0 ≤ 255
  far : far (pcol p n s (ownT n st y) 0) (pcol p n s (ownT n st y) 1) (pcol p n s (ownT n st y) 2) (pcol p n s zs 0) (pcol p n s zs 1) (pcol p n s zs 2) = 0
  tc : TC R Try.prog inverse_Quick_f [.pel (encP p), .pel (encA (qOf p n s st y))] [] (fun v X => v = .tup [.sla 1 0 0 n, .int .i64 0, .int .i64 0] ∧ X = [some (.arr Ei (nz zs))])
theorem far_self {a b c : Int} : far a b c a b c = 0 := by unfold far; simp
theorem far_comm {a b c x y z : Int} : far a b c x y z = far x y z a b c := by
  have h : ∀ u v : Int, (u - v) * (u - v) = (v - u) * (v - u) := fun u v => by rw [← Int.neg_sub v u, Int.neg_mul_neg]
  unfold far
  rw [h a x, h b y, h c z]
theorem node_ex (p : Prf) (n s sz st : Nat) (h : PrfOk p n s) (hz : szOk sz st) (y : Nat → Nat) (hy : ∀ k, k < n → y k < sz) : ∃ zs, NodeOk p n s st y zs := by
  have gi := h.g.i1
  have oo := own_ok hz hy
  have lab := pcol_ok h oo
  have a := askE_ok (ask_ok hz gi lab)
  have hx := boxOf_ok h a
  obtain ⟨x, ex⟩ : ∃ x, x = boxOf p (askOf n (pcol p n s (ownT n st y) 0) (pcol p n s (ownT n st y) 1) (pcol p n s (ownT n st y) 2) st 2040) n s := ⟨_, rfl⟩
  have iq := iquick_x p _ n s h a
  rw [← ex] at hx iq
  have x3 : x.n = n := by rw [ex]; rfl
  have xs : x.st = st := by rw [ex]; exact Int.toNat_natCast st
  have xF : ∀ k, k < n → x.F k = 0 := fun k hk => by
    rw [ex]
    show (((List.replicate n (0 : Int)).getD k 0).toNat + (st : Int).toNat - 1) / (st : Int).toNat = 0
    rw [getD_repl hk, Int.toNat_natCast]
    exact Nat.div_eq_of_lt (by unfold szOk at hz; omega)
  have xT : ∀ k, k < n → x.T k = 255 / st := fun k hk => by
    rw [ex]
    show ((List.replicate n (255 : Int)).getD k 0).toNat / (st : Int).toNat = 255 / st
    rw [getD_repl hk, Int.toNat_natCast]
    rfl
  have xq : x.q.tot = 2040 := by rw [ex]; rfl
  have xd : ∀ zs, sdst x zs = far (pcol p n s zs 0) (pcol p n s zs 1) (pcol p n s zs 2) (pcol p n s (ownT n st y) 0) (pcol p n s (ownT n st y) 1) (pcol p n s (ownT n st y) 2) := fun zs => by rw [ex]; rfl
  have c : cand x x.F x.T (ownT n st y) := ⟨by rw [x3]; exact oo.1, fun k hk => by
    rw [x3] at hk
    refine ⟨y k, by rw [xF k hk]; omega, ?_, by rw [xs]; unfold ownT; rw [tab_get hk]⟩
    rw [xT k hk]
    have := hy k hk
    rcases hz with ⟨rfl, rfl⟩ | ⟨rfl, rfl⟩ | ⟨rfl, rfl⟩ <;> omega, by
    have : ∀ m, m ≤ n → szN (fun k => (ownT n st y).getD k 0) m ≤ 255 * m := fun m => by
      induction m with
      | zero => intro _; exact Nat.le_refl _
      | succ m ihm => intro hm; have := ihm (by omega); have := oo.2 m (by omega); simp only [szN]; omega
    have := this n (Nat.le_refl _)
    rw [xq, x3]
    unfold tsum
    omega⟩
  rcases iq with ⟨nc, _⟩ | ⟨zs, b, tc⟩
  · exact absurd c (nc _)
  · have z5 := cand_255 hx (fun k _ => Nat.le_refl _) b.1
    rw [x3] at z5
    have b1 := sdst_bd hx (ys := zs) (by rw [x3]; exact z5)
    have b2 := b.2 _ c
    have d0 : sdst x (ownT n st y) = 0 := by rw [xd]; exact far_self
    have e0 : sdst x zs = 0 := by omega
    rw [e0] at tc
    exact ⟨zs, z5.1, z5.2, by rw [far_comm, ← xd]; exact e0, tc⟩
theorem node_c (p : Prf) (n s sz st : Nat) (h : PrfOk p n s) (hz : szOk sz st) (y : Nat → Nat) (hy : ∀ k, k < n → y k < sz) (zs : List Nat) (hn : NodeOk p n s st y zs) :
    TC R Try.prog devicelink_Build_1_f [.sla 1 0 0 n, .pel [.int .i64 sz, .int .i64 st, .int .i64 2040, .bool false, .int .i64 0, .int .i64 0, .int .i64 0], .pel (encP p), .pel (encP p)] [some (.arr Ei (tab n fun k => ((y k : Nat) : Int)))]
      (fun v X => v = .tup [.sla 1 1 0 n, .int .i64 0] ∧ X = [some (.arr Ei (nz (ownT n st y))), some (.arr Ei (tab n fun o => ((256 * zs.getD o 0 : Nat) : Int)))]) := by
  have gi := h.g.i1
  have il := h.il
  have oo := own_ok hz hy
  have pq := pquick_c p n s (ownT n st y) h oo
  have ac := ask_c n (pcol p n s (ownT n st y) 0) (pcol p n s (ownT n st y) 1) (pcol p n s (ownT n st y) 2) sz st 2040 false 0 0 0 gi.2
  have iq := hn.tc
  unfold qOf at iq
  have lo : (nz (ownT n st y)).length = n := by rw [nz_len]; exact oo.1
  rw [← show cut (nz (ownT n st y)) 0 n = nz (ownT n st y) from cut_all lo.symm] at pq
  have lo2 : 0 + n ≤ (nz (ownT n st y)).length := by omega
  have q1 : quo 255 ((sz : Int) - 1) = (st : Int) := by
    rcases hz with ⟨rfl, rfl⟩ | ⟨rfl, rfl⟩ | ⟨rfl, rfl⟩ <;> decide
  have szb : 2 ≤ sz ∧ sz ≤ 6 := by unfold szOk at hz; omega
  have stb : 51 ≤ st ∧ st ≤ 255 := by unfold szOk at hz; omega
  have eO : tab n (fun k => ((y k : Nat) : Int) * (st : Int)) = nz (ownT n st y) := (is_tab 0 lo fun k hk => by
    rw [nz_get]
    unfold ownT
    rw [tab_get hk, Int.natCast_mul]).symm
  generalize pcol p n s (ownT n st y) 0 = L at *
  generalize pcol p n s (ownT n st y) 1 = A0 at *
  generalize pcol p n s (ownT n st y) 2 = B0 at *
  have tl : (tab n fun k => ((y k : Nat) : Int)).length = n := tab_len
  have zl : (nz zs).length = n := by rw [nz_len]; exact hn.len
  refine tc env devicelink_Build_1_s (by rfl) ?_
  dsimp only [devicelink_Build_1_c, encP]
  repeat' (first
    | refine GZp_i_2i_L2iJ ?_ ?_ ?_ ?_ ?_ ?_ ?_ ?_
    | with_reducible first | exact BzZq.mk | refine Tw.ret ?_ | refine ImZq.i fun h => ?_ | refine IkZq.i fun hk => ?_)
  refine Tw.loopK [0, 1, 2, 3, 16] (fun i : Nat => i ≤ n) (fun i => n - i) (fun i => [(17, .int .i64 i)])
    (fun i => [some (.arr Ei (mixL n i (fun k => ((y k : Nat) : Int) * (st : Int)) (tab n fun k => ((y k : Nat) : Int))))]) ⟨0, by omega, TWk.fcanon env [some 0] (by rfl) ?_⟩ (fun i hi => ?_)
  · repeat' (first
      | exact mixL_zero tl
      | with_reducible first | exact Conj.nil | refine Conj.cons rfl ?_ | refine Conj.same ?_ | refine Conj.ask ?_ ?_
      | ((with_reducible refine Due.mk ?_); (first | with_reducible rfl | omega | assumption | decide | ((try simp only [goS] at *) <;> (try intro h) <;> (try intro h') <;> (try simp only [goS] at *) <;> (try simp only [rdi, rd2i, rdL2iJ, Int.toNat_natCast, Nat.add_zero] at *) <;> (try simp only [rng]) <;> (first | assumption | omega)) | (exact due_app0 (by omega)) | (exact due_app (by omega)) | (intros; simp; done) | (intros; simp; omega)))
      | with_reducible refine Due.mk ?_
      | omega)
  have ml : (mixL n i (fun k => ((y k : Nat) : Int) * (st : Int)) (tab n fun k => ((y k : Nat) : Int))).length = n := mixL_len
  rcases Nat.lt_or_ge i n with hi2 | hi2
  · have yb := hy i hi2
    have mg : (mixL n i (fun k => ((y k : Nat) : Int) * (st : Int)) (tab n fun k => ((y k : Nat) : Int))).getD i 0 = ((y i : Nat) : Int) := by unfold mixL; rw [tab_get hi2, if_neg (by omega), tab_get hi2]
    have ob := oo.2 i hi2
    unfold ownT at ob
    rw [tab_get hi2] at ob
    have pv : ((y i : Nat) : Int) * (st : Int) = ((y i * st : Nat) : Int) := (Int.natCast_mul _ _).symm
    have ms : mixL n (i + 1) (fun k => ((y k : Nat) : Int) * (st : Int)) (tab n fun k => ((y k : Nat) : Int)) = (mixL n i (fun k => ((y k : Nat) : Int) * (st : Int)) (tab n fun k => ((y k : Nat) : Int))).set i ((mixL n i (fun k => ((y k : Nat) : Int) * (st : Int)) (tab n fun k => ((y k : Nat) : Int))).getD i 0 * quo 255 ((sz : Int) - 1)) := by rw [mg, q1]; exact mixL_set.symm
    have d1 : -9223372036854775808 ≤ (mixL n i (fun k => ((y k : Nat) : Int) * (st : Int)) (tab n fun k => ((y k : Nat) : Int))).getD i 0 * quo 255 ((sz : Int) - 1) ∧ (mixL n i (fun k => ((y k : Nat) : Int) * (st : Int)) (tab n fun k => ((y k : Nat) : Int))).getD i 0 * quo 255 ((sz : Int) - 1) ≤ 9223372036854775807 := by rw [mg, q1, pv]; omega
    have d2 : rng .i64 (quo 255 ((sz : Int) - 1)) := by rw [q1]; simp only [rng]; omega
    repeat' (first
      | exact d1
      | exact d2
      | refine GZy_i_2i_L2iJ ml ?_ ?_ ?_ ?_ ?_ ?_ ?_ ?_
      | with_reducible first | exact BzZq.mk | refine Tw.ret ?_ | refine ImZq.i fun h => ?_ | refine IkZq.i fun hk => ?_)
    refine ⟨i + 1, by omega, by omega, TWk.fcanon env [some 0] (by rfl) ?_⟩
    repeat' (first
      | exact ms
      | with_reducible first | exact Conj.nil | refine Conj.cons rfl ?_ | refine Conj.same ?_ | refine Conj.ask ?_ ?_
      | ((with_reducible refine Due.mk ?_); (first | with_reducible rfl | omega | assumption | decide | ((try simp only [goS] at *) <;> (try intro h) <;> (try intro h') <;> (try simp only [goS] at *) <;> (try simp only [rdi, rd2i, rdL2iJ, Int.toNat_natCast, Nat.add_zero] at *) <;> (try simp only [rng]) <;> (first | assumption | omega)) | (exact due_app0 (by omega)) | (exact due_app (by omega)) | (intros; simp; done) | (intros; simp; omega)))
      | with_reducible refine Due.mk ?_
      | omega)
  obtain rfl : i = n := by omega
  rw [mixL_all, eO]
  repeat' (first
    | ((with_reducible refine TOps.any ?_); refine TOps.callE env (by rfl) (by rfl) (by rfl) ?_ (pq) (by rfl) ?_)
    | exact lo2
    | refine GZp_i_2i_L2iJ ?_ ?_ ?_ ?_ ?_ ?_ ?_ ?_
    | with_reducible first | exact BzZq.mk | refine Tw.ret ?_ | refine ImZq.i fun h => ?_ | refine IkZq.i fun hk => ?_)
  rw [il]
  repeat' (first
    | ((with_reducible refine TOps.any ?_); refine TOps.callV env (by rfl) (by rfl) (by rfl) (ac) ?_)
    | ((with_reducible refine TOps.any ?_); refine TOps.callE env (by rfl) (by rfl) (by rfl) ?_ (iq) (by rfl) ?_)
    | refine GZp_i_2i_L2iJ ?_ ?_ ?_ ?_ ?_ ?_ ?_ ?_
    | with_reducible first | exact BzZq.mk | refine Tw.ret ?_ | refine ImZq.i fun h => ?_ | refine IkZq.i fun hk => ?_)
  refine Tw.loopK [11, 60] (fun k : Nat => k ≤ i) (fun k => i - k) (fun k => [(61, .int .i64 k)])
    (fun k => [some (.arr Ei (nz (ownT i st y))), none, none, some (.arr Ei (mixL i k (fun o => ((256 * zs.getD o 0 : Nat) : Int)) (nz zs)))]) ⟨0, by omega, TWk.fcanon env [some 0, some 1, some 2, some 3] (by rfl) ?_⟩ (fun k hk => ?_)
  · repeat' (first
      | exact mixL_zero zl
      | with_reducible first | exact Conj.nil | refine Conj.cons rfl ?_ | refine Conj.same ?_ | refine Conj.ask ?_ ?_
      | ((with_reducible refine Due.mk ?_); (first | with_reducible rfl | omega | assumption | decide | ((try simp only [goS] at *) <;> (try intro h) <;> (try intro h') <;> (try simp only [goS] at *) <;> (try simp only [rdi, rd2i, rdL2iJ, Int.toNat_natCast, Nat.add_zero] at *) <;> (try simp only [rng]) <;> (first | assumption | omega)) | (exact due_app0 (by omega)) | (exact due_app (by omega)) | (intros; simp; done) | (intros; simp; omega)))
      | with_reducible refine Due.mk ?_
      | omega)
  have ml2 : (mixL i k (fun o => ((256 * zs.getD o 0 : Nat) : Int)) (nz zs)).length = i := mixL_len
  rcases Nat.lt_or_ge k i with hk2 | hk2
  · have zb := hn.bd k hk2
    have mg : (mixL i k (fun o => ((256 * zs.getD o 0 : Nat) : Int)) (nz zs)).getD k 0 = ((zs.getD k 0 : Nat) : Int) := by unfold mixL; rw [tab_get hk2, if_neg (by omega), nz_get]
    have ms : mixL i (k + 1) (fun o => ((256 * zs.getD o 0 : Nat) : Int)) (nz zs) = (mixL i k (fun o => ((256 * zs.getD o 0 : Nat) : Int)) (nz zs)).set k ((mixL i k (fun o => ((256 * zs.getD o 0 : Nat) : Int)) (nz zs)).getD k 0 * 256) := by
      rw [mg, show ((zs.getD k 0 : Nat) : Int) * 256 = ((256 * zs.getD k 0 : Nat) : Int) by omega]
      exact mixL_set.symm
    have d1 : -9223372036854775808 ≤ (mixL i k (fun o => ((256 * zs.getD o 0 : Nat) : Int)) (nz zs)).getD k 0 * 256 ∧ (mixL i k (fun o => ((256 * zs.getD o 0 : Nat) : Int)) (nz zs)).getD k 0 * 256 ≤ 9223372036854775807 := by rw [mg]; omega
    repeat' (first
      | exact d1
      | refine GZy_i_2i_L2iJ ml2 ?_ ?_ ?_ ?_ ?_ ?_ ?_ ?_
      | with_reducible first | exact BzZq.mk | refine Tw.ret ?_ | refine ImZq.i fun h => ?_ | refine IkZq.i fun hk => ?_)
    refine ⟨k + 1, by omega, by omega, TWk.fcanon env [some 0, some 1, some 2, some 3] (by rfl) ?_⟩
    repeat' (first
      | exact ms
      | with_reducible first | exact Conj.nil | refine Conj.cons rfl ?_ | refine Conj.same ?_ | refine Conj.ask ?_ ?_
      | ((with_reducible refine Due.mk ?_); (first | with_reducible rfl | omega | assumption | decide | ((try simp only [goS] at *) <;> (try intro h) <;> (try intro h') <;> (try simp only [goS] at *) <;> (try simp only [rdi, rd2i, rdL2iJ, Int.toNat_natCast, Nat.add_zero] at *) <;> (try simp only [rng]) <;> (first | assumption | omega)) | (exact due_app0 (by omega)) | (exact due_app (by omega)) | (intros; simp; done) | (intros; simp; omega)))
      | with_reducible refine Due.mk ?_
      | omega)
  obtain rfl : k = i := by omega
  rw [mixL_all]
  repeat' (first
    | ((with_reducible refine Tw.retI ?_); refine Tw.gc env [0, 3] [5, 6] (by rfl) (by rfl) ?_ (Tw.ret ?_))
    | refine GZp_i_2i_L2iJ ?_ ?_ ?_ ?_ ?_ ?_ ?_ ?_
    | with_reducible first | exact BzZq.mk | refine Tw.ret ?_ | refine ImZq.i fun h => ?_ | refine IkZq.i fun hk => ?_)
  all_goals exact ⟨rfl, rfl⟩
theorem makeLnk_r (inn out s : Nat) (sz st : Nat) (p : Prf) (idx : (Nat → Nat) → List Int) (Wn : (Nat → Nat) → Nat → Int) (hs : shapeE inn out s = 0)
    (hw : ∀ y, (∀ k, k < inn → y k < s) → ∀ o, o < out → -32768 ≤ Wn y o ∧ Wn y o ≤ 65535)
    (hf : ∀ y, (∀ k, k < inn → y k < s) → TC R Try.prog devicelink_Build_1_f [.sla 1 0 0 inn, .pel [.int .i64 sz, .int .i64 st, .int .i64 2040, .bool false, .int .i64 0, .int .i64 0, .int .i64 0], .pel (encP p), .pel (encP p)] [some (.arr Ei (tab inn fun k => ((y k : Nat) : Int)))]
      (fun v X => v = .tup [.sla 1 1 0 out, .int .i64 0] ∧ X = [some (.arr Ei (idx y)), some (.arr Ei (tab out (Wn y)))])) :
    TC R Try.prog grid_Make_f [.int .i64 inn, .int .i64 out, .int .i64 s, .fn devicelink_Build_1_f [.pel [.int .i64 sz, .int .i64 st, .int .i64 2040, .bool false, .int .i64 0, .int .i64 0, .int .i64 0], .pel (encP p), .pel (encP p)]] []
    (fun v X => v = .tup [.agg [.int .i64 inn, .int .i64 out, .int .i64 s, .sla 1 1 0 (out * s ^ inn)], .int .i64 0] ∧ ∃ c, X = [c, some (.arr Ei (tab (out * s ^ inn) (gvals out s inn Wn)))]) := by
  have nc := nodes_c inn out s
  rw [hs, if_pos rfl] at nc
  obtain ⟨g1, g2, g3, g4, g5, g6⟩ := shape_ok hs
  rw [Int.toNat_natCast] at nc g6
  have pe : (s : Int) ^ inn = ((s ^ inn : Nat) : Int) := by simp
  have pm : ((s ^ inn : Nat) : Int) * (out : Int) = ((out * s ^ inn : Nat) : Int) := by rw [Int.mul_comm]; simp
  rw [pe] at nc g6
  rw [pm] at g6
  have hs2 : 2 ≤ s ∧ s ≤ 9 := by omega
  have hN : 1 ≤ s ^ inn := Nat.pow_pos (by omega)
  have hN2 : s ^ inn ≤ out * s ^ inn := Nat.le_mul_of_pos_left _ (by omega)
  have hG : GOk inn out s (tab (out * s ^ inn) (gvals out s inn Wn)) := ⟨by omega, by omega, by omega, by rw [Nat.mul_comm]; omega, by rw [tab_len, Nat.mul_comm], fun v hv => by
    obtain ⟨i, hi, rfl⟩ := mem_getD (d := 0) hv
    rw [tab_len] at hi
    rw [tab_get hi]
    exact hw _ (fun k hk => dg_lt (by omega)) _ (Nat.mod_lt _ (by omega))⟩
  have cc := gcheck_c inn out s (tab (out * s ^ inn) (gvals out s inn Wn))
  rw [hG.chk] at cc
  refine tc env grid_Make_s (by rfl) ?_
  dsimp only [grid_Make_c]
  repeat' (first
    | ((with_reducible refine TOps.any ?_); refine TOps.callV env (by rfl) (by rfl) (by rfl) (nc) ?_)
    | refine GZy_i_2i_L2iJ pm ?_ ?_ ?_ ?_ ?_ ?_ ?_ ?_
    | with_reducible first | exact BzZq.mk | refine Tw.ret ?_ | refine ImZq.i fun h => ?_ | refine IkZq.i fun hk => ?_)
  rw [Int.toNat_natCast]
  refine Tw.loopK [0, 1, 2, 3, 8, 9, 12, 13, 39] (fun i : Nat => i ≤ s ^ inn) (fun i => s ^ inn - i) (fun i => [(40, .int .i64 i)])
    (fun i => [some (.cells [.int .i64 0, .int .i64 0, .int .i64 0, .nils]), some (.arr Ei (tab (out * i) (gvals out s inn Wn))), some (.cells [.int .i64 inn, .int .i64 out, .int .i64 s, .sla 1 1 0 (out * i)]), some (.arr Ei (tab inn fun k => ((dg s inn i k : Nat) : Int)))])
    ⟨0, by omega, TWk.fcanon env [some 0, some 1, some 2, some 3] (by rfl) ?_⟩ (fun i hi => ?_)
  · have z : (tab inn fun k => ((dg s inn 0 k : Nat) : Int)) = List.replicate inn 0 := by rw [tab_repl]; exact tab_congr fun k _ => by unfold dg; simp
    repeat' (first
      | exact z
      | with_reducible first | exact Conj.nil | refine Conj.cons rfl ?_ | refine Conj.same ?_ | refine Conj.ask ?_ ?_
      | ((with_reducible refine Due.mk ?_); (first | with_reducible rfl | omega | assumption | decide | ((try simp only [goS] at *) <;> (try intro h) <;> (try intro h') <;> (try simp only [goS] at *) <;> (try simp only [rdi, rd2i, rdL2iJ, Int.toNat_natCast, Nat.add_zero] at *) <;> (try simp only [rng]) <;> (first | assumption | omega)) | (exact due_app0 (by omega)) | (exact due_app (by omega)) | (intros; simp; done) | (intros; simp; omega)))
      | with_reducible refine Due.mk ?_
      | omega)
  rcases Nat.lt_or_ge i (s ^ inn) with hi | hi
  · have hy : ∀ k, k < inn → dg s inn i k < s := fun k _ => dg_lt (by omega)
    have fc := hf (dg s inn i) hy
    have tl : (tab inn fun k => ((dg s inn i k : Nat) : Int)).length = inn := tab_len
    have b1 : (cut (tab inn fun k => ((dg s inn i k : Nat) : Int)) 0 inn).length * 8 ≤ 140737488355328 ∧ (cut (tab inn fun k => ((dg s inn i k : Nat) : Int)) 0 inn).length ≤ 140737488355328 := by rw [cut_tab, tl]; omega
    repeat' (first
      | exact b1
      | refine GZp_i_2i_L2iJ ?_ ?_ ?_ ?_ ?_ ?_ ?_ ?_
      | with_reducible first | exact BzZq.mk | refine Tw.ret ?_ | refine ImZq.i fun h => ?_ | refine IkZq.i fun hk => ?_)
    rw [cut_tab, tl]
    have oi : out * i + out ≤ out * s ^ inn := by
      have := Nat.mul_le_mul_left out hi
      rwa [Nat.mul_succ] at this
    have vl : (tab (out * i) (gvals out s inn Wn)).length = out * i := tab_len
    have wl : (tab out (Wn (dg s inn i))).length = out := tab_len
    have e1 : 0 + out ≤ (tab out (Wn (dg s inn i))).length := by omega
    have e2 : 0 + out * i ≤ (tab (out * i) (gvals out s inn Wn)).length := by omega
    have e3 : (out * i + (cut (tab out (Wn (dg s inn i))) 0 out).length) * 8 ≤ 140737488355328 ∧ out * i + (cut (tab out (Wn (dg s inn i))) 0 out).length ≤ 140737488355328 := by rw [cut_tab, wl]; omega
    repeat' (first
      | ((with_reducible refine TOps.any ?_); refine TOps.callHE env [4] (fc) (by rfl) (by rfl) (by rfl) (by rfl) (by rfl) (by rfl) (by repeat' (first | exact trivial | refine ⟨rfl, ?_⟩)) ?_)
      | exact e1
      | exact e2
      | exact e3
      | refine GZp_i_2i_L2iJ ?_ ?_ ?_ ?_ ?_ ?_ ?_ ?_
      | with_reducible first | exact BzZq.mk | refine Tw.ret ?_ | refine ImZq.i fun h => ?_ | refine IkZq.i fun hk => ?_)
    have rv : cut (tab (out * i) (gvals out s inn Wn)) 0 (out * i) ++ cut (tab out (Wn (dg s inn i))) 0 out = tab (out * (i + 1)) (gvals out s inn Wn) := by rw [cut_tab, cut_tab, gvals_app]
    have rl : out * i + (cut (tab out (Wn (dg s inn i))) 0 out).length = out * (i + 1) := by rw [cut_tab, wl, Nat.mul_add, Nat.mul_one]
    rw [rl]
    refine Tw.loopK [0, 1, 2, 3, 8, 9, 12, 13, 39, 40] (fun m : Nat => m ≤ inn ∧ s ^ m ∣ i + 1) (fun m => inn - m) (fun m => [(16, .int .i64 ((inn : Int) - 1 - m))])
      (fun m => [some (.cells [.int .i64 0, .int .i64 0, .int .i64 0, .nils]), some (.arr Ei (tab (out * (i + 1)) (gvals out s inn Wn))), some (.cells [.int .i64 inn, .int .i64 out, .int .i64 s, .sla 1 1 0 (out * (i + 1))]), some (.arr Ei (tab inn fun j => if inn - m ≤ j then (0 : Int) else ((dg s inn i j : Nat) : Int)))])
      ⟨0, ⟨by omega, by simp⟩, TWk.fcanon env [some 0, some 6, some 2, some 3] (by rfl) ?_⟩ (fun m hm => ?_)
    · have z : (tab inn fun j => if inn - 0 ≤ j then 0 else ((dg s inn i j : Nat) : Int)) = tab inn fun k => ((dg s inn i k : Nat) : Int) := tab_congr fun j hj => if_neg (by omega)
      repeat' (first
        | exact z
        | exact rv.symm
        | with_reducible first | exact Conj.nil | refine Conj.cons rfl ?_ | refine Conj.same ?_ | refine Conj.ask ?_ ?_
        | ((with_reducible refine Due.mk ?_); (first | with_reducible rfl | omega | assumption | decide | ((try simp only [goS] at *) <;> (try intro h) <;> (try intro h') <;> (try simp only [goS] at *) <;> (try simp only [rdi, rd2i, rdL2iJ, Int.toNat_natCast, Nat.add_zero] at *) <;> (try simp only [rng]) <;> (first | assumption | omega)) | (exact due_app0 (by omega)) | (exact due_app (by omega)) | (intros; simp; done) | (intros; simp; omega)))
        | with_reducible refine Due.mk ?_
        | omega)
    obtain ⟨hm, hd⟩ := hm
    have lset : ∀ (l : List Int) (i : Nat) (v : Int), (l.set i v).length = l.length := fun _ _ _ => List.length_set
    have nl : (tab inn fun j => if inn - m ≤ j then (0 : Int) else ((dg s inn i j : Nat) : Int)).length = inn := tab_len
    rcases Nat.lt_or_ge m inn with hm | hm
    · have k1 : ((inn : Int) - 1 - m).toNat = inn - 1 - m := by omega
      have v1 : (tab inn fun j => if inn - m ≤ j then (0 : Int) else ((dg s inn i j : Nat) : Int)).getD (inn - 1 - m) 0 = ((dg s inn i (inn - 1 - m) : Nat) : Int) := by rw [tab_get (by omega), if_neg (by omega)]
      have v2 : ((tab inn fun j => if inn - m ≤ j then (0 : Int) else ((dg s inn i j : Nat) : Int)).set (inn - 1 - m) (((dg s inn i (inn - 1 - m) : Nat) : Int) + 1)).getD (inn - 1 - m) 0 = ((dg s inn i (inn - 1 - m) : Nat) : Int) + 1 := getD_set_eq (by rw [tab_len]; omega)
      have v3 := hy (inn - 1 - m) (by omega)
      by_cases hlt : dg s inn i (inn - 1 - m) + 1 < s
      · have r1 : (tab inn fun j => if inn - m ≤ j then (0 : Int) else ((dg s inn i j : Nat) : Int)).set ((inn : Int) - 1 - m).toNat ((tab inn fun j => if inn - m ≤ j then (0 : Int) else ((dg s inn i j : Nat) : Int)).getD ((inn : Int) - 1 - m).toNat 0 + 1) = tab inn fun k => ((dg s inn (i + 1) k : Nat) : Int) := by
          rw [k1, v1, tab_set]
          refine tab_congr fun j hj => ?_
          have e := dg_next1 hs2.1 hd hm hlt j hj
          by_cases h1 : j = inn - 1 - m
          · rw [if_pos h1, e, if_neg (by omega), if_pos h1, h1]; simp
          · rw [if_neg h1, e]
            by_cases h2 : inn - m ≤ j
            · rw [if_pos h2, if_pos h2]; rfl
            · rw [if_neg h2, if_neg h2, if_neg h1]
        repeat' (first
          | refine GZy_i_2i_L2iJ (And.intro nl (And.intro k1 (And.intro v1 (And.intro v2 lset)))) ?_ ?_ ?_ ?_ ?_ ?_ ?_ ?_
          | with_reducible first | exact BzZq.mk | refine Tw.ret ?_ | refine ImZq.i fun h => ?_ | refine IkZq.i fun hk => ?_)
        refine ⟨i + 1, by omega, by omega, TWk.fcanon env [some 0, some 1, some 2, some 3] (by rfl) ?_⟩
        repeat' (first
          | exact r1.symm
          | with_reducible first | exact Conj.nil | refine Conj.cons rfl ?_ | refine Conj.same ?_ | refine Conj.ask ?_ ?_
          | ((with_reducible refine Due.mk ?_); (first | with_reducible rfl | omega | assumption | decide | ((try simp only [goS] at *) <;> (try intro h) <;> (try intro h') <;> (try simp only [goS] at *) <;> (try simp only [rdi, rd2i, rdL2iJ, Int.toNat_natCast, Nat.add_zero] at *) <;> (try simp only [rng]) <;> (first | assumption | omega)) | (exact due_app0 (by omega)) | (exact due_app (by omega)) | (intros; simp; done) | (intros; simp; omega)))
          | with_reducible refine Due.mk ?_
          | omega)
      · have r1 : ((tab inn fun j => if inn - m ≤ j then (0 : Int) else ((dg s inn i j : Nat) : Int)).set ((inn : Int) - 1 - m).toNat ((tab inn fun j => if inn - m ≤ j then (0 : Int) else ((dg s inn i j : Nat) : Int)).getD ((inn : Int) - 1 - m).toNat 0 + 1)).set ((inn : Int) - 1 - m).toNat 0 = tab inn fun j => if inn - (m + 1) ≤ j then 0 else ((dg s inn i j : Nat) : Int) := by
          rw [k1, v1, tab_set, tab_set]
          refine tab_congr fun j hj => ?_
          by_cases h1 : j = inn - 1 - m
          · rw [if_pos h1, if_pos (by omega)]
          · rw [if_neg h1, if_neg h1]
            by_cases h2 : inn - m ≤ j
            · rw [if_pos h2, if_pos (by omega)]
            · rw [if_neg h2, if_neg (by omega)]
        repeat' (first
          | refine GZy_i_2i_L2iJ (And.intro nl (And.intro k1 (And.intro v1 (And.intro v2 lset)))) ?_ ?_ ?_ ?_ ?_ ?_ ?_ ?_
          | with_reducible first | exact BzZq.mk | refine Tw.ret ?_ | refine ImZq.i fun h => ?_ | refine IkZq.i fun hk => ?_)
        refine ⟨m + 1, ⟨by omega, dg_next2 hs2.1 hd hm (by omega)⟩, by omega, TWk.fcanon env [some 0, some 1, some 2, some 3] (by rfl) ?_⟩
        repeat' (first
          | exact r1.symm
          | with_reducible first | exact Conj.nil | refine Conj.cons rfl ?_ | refine Conj.same ?_ | refine Conj.ask ?_ ?_
          | ((with_reducible refine Due.mk ?_); (first | with_reducible rfl | omega | assumption | decide | ((try simp only [goS] at *) <;> (try intro h) <;> (try intro h') <;> (try simp only [goS] at *) <;> (try simp only [rdi, rd2i, rdL2iJ, Int.toNat_natCast, Nat.add_zero] at *) <;> (try simp only [rng]) <;> (first | assumption | omega)) | (exact due_app0 (by omega)) | (exact due_app (by omega)) | (intros; simp; done) | (intros; simp; omega)))
          | with_reducible refine Due.mk ?_
          | omega)
    · obtain rfl : m = inn := by omega
      have r1 : (tab m fun j => if m - m ≤ j then 0 else ((dg s m i j : Nat) : Int)) = tab m fun k => ((dg s m (i + 1) k : Nat) : Int) := tab_congr fun j hj => by
        rw [if_pos (by omega), dg_next0 (by omega) hd hj (by omega)]; rfl
      repeat' (first
        | refine GZp_i_2i_L2iJ ?_ ?_ ?_ ?_ ?_ ?_ ?_ ?_
        | with_reducible first | exact BzZq.mk | refine Tw.ret ?_ | refine ImZq.i fun h => ?_ | refine IkZq.i fun hk => ?_)
      refine ⟨i + 1, by omega, by omega, TWk.fcanon env [some 0, some 1, some 2, some 3] (by rfl) ?_⟩
      repeat' (first
        | exact r1.symm
        | with_reducible first | exact Conj.nil | refine Conj.cons rfl ?_ | refine Conj.same ?_ | refine Conj.ask ?_ ?_
        | ((with_reducible refine Due.mk ?_); (first | with_reducible rfl | omega | assumption | decide | ((try simp only [goS] at *) <;> (try intro h) <;> (try intro h') <;> (try simp only [goS] at *) <;> (try simp only [rdi, rd2i, rdL2iJ, Int.toNat_natCast, Nat.add_zero] at *) <;> (try simp only [rng]) <;> (first | assumption | omega)) | (exact due_app0 (by omega)) | (exact due_app (by omega)) | (intros; simp; done) | (intros; simp; omega)))
        | with_reducible refine Due.mk ?_
        | omega)
  · obtain rfl : i = s ^ inn := by omega
    have vl : (tab (out * s ^ inn) (gvals out s inn Wn)).length = out * s ^ inn := tab_len
    have e2 : 0 + out * s ^ inn ≤ (tab (out * s ^ inn) (gvals out s inn Wn)).length := by omega
    rw [← cut_tab] at cc
    repeat' (first
      | ((with_reducible refine TOps.any ?_); refine TOps.callE env (by rfl) (by rfl) (by rfl) ?_ (cc) (by rfl) ?_)
      | exact e2
      | ((with_reducible refine Tw.retI ?_); refine Tw.gc env [0, 1] [8, 9] (by rfl) (by rfl) ?_ (Tw.ret ?_))
      | refine GZp_i_2i_L2iJ ?_ ?_ ?_ ?_ ?_ ?_ ?_ ?_
      | with_reducible first | exact BzZq.mk | refine Tw.ret ?_ | refine ImZq.i fun h => ?_ | refine IkZq.i fun hk => ?_)
    all_goals exact ⟨rfl, _, rfl⟩
theorem makeLnk_c (inn out s : Nat) (sz st : Nat) (p : Prf) (idx : (Nat → Nat) → List Int) (Wn : (Nat → Nat) → Nat → Int) (hs : shapeE inn out s = 0)
    (hw : ∀ y, (∀ k, k < inn → y k < s) → ∀ o, o < out → -32768 ≤ Wn y o ∧ Wn y o ≤ 65535)
    (hf : ∀ y, (∀ k, k < inn → y k < s) → TC R Try.prog devicelink_Build_1_f [.sla 1 0 0 inn, .pel [.int .i64 sz, .int .i64 st, .int .i64 2040, .bool false, .int .i64 0, .int .i64 0, .int .i64 0], .pel (encP p), .pel (encP p)] [some (.arr Ei (tab inn fun k => ((y k : Nat) : Int)))]
      (fun v X => v = .tup [.sla 1 1 0 out, .int .i64 0] ∧ X = [some (.arr Ei (idx y)), some (.arr Ei (tab out (Wn y)))])) :
    TC R Try.prog grid_Make_f [.int .i64 inn, .int .i64 out, .int .i64 s, .fn devicelink_Build_1_f [.pel [.int .i64 sz, .int .i64 st, .int .i64 2040, .bool false, .int .i64 0, .int .i64 0, .int .i64 0], .pel (encP p), .pel (encP p)]] []
    (fun v X => v = .tup [.agg [.int .i64 inn, .int .i64 out, .int .i64 s, .sla 1 0 0 (out * s ^ inn)], .int .i64 0] ∧ X = [some (.arr Ei (tab (out * s ^ inn) (gvals out s inn Wn)))]) := by
  refine (makeLnk_r inn out s sz st p idx Wn hs hw hf).wk fun v X h => ?_
  obtain ⟨rfl, c, rfl⟩ := h
  refine ⟨_, [some (.arr Ei (tab (out * s ^ inn) (gvals out s inn Wn)))], TWk.fcanon env [some 1] (F' := [(0, .tup [.agg [.int .i64 inn, .int .i64 out, .int .i64 s, .sla 1 0 0 (out * s ^ inn)], .int .i64 0])]) (by rfl) ?_, rfl, rfl⟩
  repeat' (first
    | with_reducible first | exact Conj.nil | refine Conj.cons rfl ?_ | refine Conj.same ?_ | refine Conj.ask ?_ ?_
    | ((with_reducible refine Due.mk ?_); (first | with_reducible rfl | omega | assumption | decide | ((try simp only [goS] at *) <;> (try intro h) <;> (try intro h') <;> (try simp only [goS] at *) <;> (try simp only [rdi, rd2i, rdL2iJ, Int.toNat_natCast, Nat.add_zero] at *) <;> (try simp only [rng]) <;> (first | assumption | omega)) | (exact due_app0 (by omega)) | (exact due_app (by omega)) | (intros; simp; done) | (intros; simp; omega)))
    | with_reducible refine Due.mk ?_
    | omega)
end Go.Proofs.Ytkapjajlkpepmaa
