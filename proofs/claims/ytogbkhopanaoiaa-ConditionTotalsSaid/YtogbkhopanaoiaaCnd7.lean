/- Conditions: colours, process tones, spot inks. -/
import Derived.Test.YtogbkhopanaoiaaCnd6
import Derived.Test.YtogbkhopanaoiaaSpot4
import Derived.Test.YtogbkhopanaoiaaGo
namespace Go.Proofs.Ytogbkhopanaoiaa
open Go Go.Lite
set_option linter.unusedVariables false
set_option linter.unusedSimpArgs false
set_option maxRecDepth 100000
set_option maxHeartbeats 4000000
-- @macs Cnd5
-- @simp rdi rd2i rdy

theorem fromR_c (c : Cnd) (s : Nat) (comps : List Nat) (h : CndOk c) (es : c.rc = s) (g : GOk 3 c.inks.length s c.rv) (hv : inFull c.rv) (ea : c.ra = 3) (eb : c.rb = (c.inks.length : Nat)) (hc : comps.length = 3) (hb : ∀ i, i < 3 → comps.getD i 0 ≤ 255) :
    TC R Try.prog condition_from_f [.pel (encC c), .pel (.int .i64 c.ra :: .int .i64 c.rb :: .int .i64 c.rc :: .lst Ei c.rv :: [.lst Es6iL2iJLiJ c.sp, .int .i64 c.tot]), .lst Ey (nz comps)] [] (fun v X => v = .agg (inkA (quickL (dlQ c.rv c.inks.length s comps) (blk c) c.tot)) ∧ X = []) := by
  have dq := dlQuick_p 3 c.inks.length s c.rv comps [.lst Es6iL2iJLiJ c.sp, .int .i64 c.tot] g hv ⟨hc, fun i hi => hb i hi⟩
  have gs := g.step
  have lc := limited_c c (dlQ c.rv c.inks.length s comps) h (dlQ_bd hv (by omega)) dlQ_len
  have lq : (dlQ c.rv c.inks.length s comps).length = c.inks.length := dlQ_len
  obtain ⟨q, hq⟩ : ∃ q, q = dlQ c.rv c.inks.length s comps := ⟨_, rfl⟩
  rw [← hq] at dq lc lq ⊢
  have lz : (nz comps).length = 3 := by rw [nz_len]; exact hc
  have en : nz comps = tab 3 fun i => ((comps.getD i 0 : Nat) : Int) := is_tab 0 lz fun i hi => nz_get
  rw [show ((3 : Nat) : Int) = c.ra by omega, show ((c.inks.length : Nat) : Int) = c.rb from eb.symm, show ((s : Nat) : Int) = c.rc from es.symm] at dq
  have eq0 : cut q 0 c.inks.length = q := cut_all lq.symm
  refine tc0 env condition_from_s (by rfl) ?_
  dsimp only [condition_from_c, encC]
  repeat' (first
    | refine GZy_i_2i_y lz ?_ ?_ ?_ ?_ ?_ ?_ ?_ ?_
    | with_reducible first | exact BzZq.mk | refine Tw.ret ?_ | refine ImZq.i fun h => ?_ | refine IkZq.i fun hk => ?_)
  rw [lz, Int.toNat_natCast]
  refine Tw.loopK [0, 1, 6, 13, 14] (fun i : Nat => i ≤ 3) (fun i => 3 - i) (fun i => [(15, .int .i64 i), (7, .sla 1 1 0 3)]) (fun i => [some (.cells [.int .u8 0, .int .u8 0, .int .u8 0, .int .u8 0, .int .u8 0, .int .u8 0, .int .u8 0, .int .u8 0]), some (.arr Ei (ptab 3 i fun i => ((comps.getD i 0 : Nat) : Int)))]) ⟨0, by omega, ?_⟩ (fun i hi => ?_)
  · rw [ptab_zero]
    refine TWk.fcanon env [some 0, some 1] (by rfl) ?_
    repeat' (first
      | exact lz
      | exact lz.symm
      | with_reducible first | exact Conj.nil | refine Conj.cons rfl ?_ | refine Conj.same ?_ | refine Conj.ask ?_ ?_
      | ((with_reducible refine Due.mk ?_); (first | with_reducible rfl | omega | assumption | decide | ((try simp only [goS] at *) <;> (try intro h) <;> (try intro h') <;> (try simp only [goS] at *) <;> (try simp only [rdi, rd2i, rdy, Int.toNat_natCast, Nat.add_zero] at *) <;> (try simp only [rng]) <;> (first | assumption | omega)) | (exact due_app0 (by omega)) | (exact due_app (by omega)) | (intros; simp; done) | (intros; simp; omega)))
      | with_reducible refine Due.mk ?_
      | omega)
  have pl : (ptab 3 i fun i => ((comps.getD i 0 : Nat) : Int)).length = 3 := ptab_len
  rcases Nat.lt_or_ge i 3 with hi2 | hi2
  · have xb := hb i hi2
    have e1 : (nz comps).getD i 0 = ((comps.getD i 0 : Nat) : Int) := nz_get
    have ps : (ptab 3 i fun i => ((comps.getD i 0 : Nat) : Int)).set i ((nz comps).getD i 0) = ptab 3 (i + 1) fun i => ((comps.getD i 0 : Nat) : Int) := by rw [e1]; exact ptab_set (f := fun i => ((comps.getD i 0 : Nat) : Int))
    repeat' (first
      | refine GZy_i_2i_y (And.intro pl (And.intro lz e1)) ?_ ?_ ?_ ?_ ?_ ?_ ?_ ?_
      | with_reducible first | exact BzZq.mk | refine Tw.ret ?_ | refine ImZq.i fun h => ?_ | refine IkZq.i fun hk => ?_)
    refine ⟨i + 1, by omega, by omega, TWk.fcanon env [some 0, some 1] (by rfl) ?_⟩
    repeat' (first
      | exact ps.symm
      | with_reducible first | exact Conj.nil | refine Conj.cons rfl ?_ | refine Conj.same ?_ | refine Conj.ask ?_ ?_
      | ((with_reducible refine Due.mk ?_); (first | with_reducible rfl | omega | assumption | decide | ((try simp only [goS] at *) <;> (try intro h) <;> (try intro h') <;> (try simp only [goS] at *) <;> (try simp only [rdi, rd2i, rdy, Int.toNat_natCast, Nat.add_zero] at *) <;> (try simp only [rng]) <;> (first | assumption | omega)) | (exact due_app0 (by omega)) | (exact due_app (by omega)) | (intros; simp; done) | (intros; simp; omega)))
      | with_reducible refine Due.mk ?_
      | omega)
  obtain rfl : i = 3 := by omega
  rw [ptab_all, ← en]
  have pl2 : 0 + 3 ≤ (nz comps).length := by omega
  repeat' (first
    | refine GZp_i_2i_y ?_ ?_ ?_ ?_ ?_ ?_ ?_ ?_
    | with_reducible first | exact BzZq.mk | refine Tw.ret ?_ | refine ImZq.i fun h => ?_ | refine IkZq.i fun hk => ?_)
  refine TOps.frz env 1 (by rfl) (by rfl) (by rfl) ?_ ?_ ?_
  · repeat' (first
      | exact pl2
      | with_reducible first | exact Conj.nil | refine Conj.cons rfl ?_ | refine Conj.same ?_ | refine Conj.ask ?_ ?_
      | ((with_reducible refine Due.mk ?_); (first | with_reducible rfl | omega | assumption | decide | ((try simp only [goS] at *) <;> (try intro h) <;> (try intro h') <;> (try simp only [goS] at *) <;> (try simp only [rdi, rd2i, rdy, Int.toNat_natCast, Nat.add_zero] at *) <;> (try simp only [rng]) <;> (first | assumption | omega)) | (exact due_app0 (by omega)) | (exact due_app (by omega)) | (intros; simp; done) | (intros; simp; omega)))
      | with_reducible refine Due.mk ?_
      | omega)
  · repeat' (first
      | exact pl2
      | with_reducible first | exact Conj.nil | refine Conj.cons rfl ?_ | refine Conj.same ?_ | refine Conj.ask ?_ ?_
      | ((with_reducible refine Due.mk ?_); (first | with_reducible rfl | omega | assumption | decide | ((try simp only [goS] at *) <;> (try intro h) <;> (try intro h') <;> (try simp only [goS] at *) <;> (try simp only [rdi, rd2i, rdy, Int.toNat_natCast, Nat.add_zero] at *) <;> (try simp only [rng]) <;> (first | assumption | omega)) | (exact due_app0 (by omega)) | (exact due_app (by omega)) | (intros; simp; done) | (intros; simp; omega)))
      | with_reducible refine Due.mk ?_
      | omega)
  rw [cut_all lz.symm]
  repeat' (first
    | ((with_reducible refine TOps.any ?_); refine TOps.callV env (by rfl) (by rfl) (by rfl) (dq) ?_)
    | refine GZp_i_2i_y ?_ ?_ ?_ ?_ ?_ ?_ ?_ ?_
    | with_reducible first | exact BzZq.mk | refine Tw.ret ?_ | refine ImZq.i fun h => ?_ | refine IkZq.i fun hk => ?_)
  refine TOps.frz env 2 (by rfl) (by rfl) (by rfl) ?_ ?_ ?_
  · repeat' (first
      | with_reducible first | exact Conj.nil | refine Conj.cons rfl ?_ | refine Conj.same ?_ | refine Conj.ask ?_ ?_
      | ((with_reducible refine Due.mk ?_); (first | with_reducible rfl | omega | assumption | decide | ((try simp only [goS] at *) <;> (try intro h) <;> (try intro h') <;> (try simp only [goS] at *) <;> (try simp only [rdi, rd2i, rdy, lq, Int.toNat_natCast, Nat.add_zero] at *) <;> (try simp only [rng]) <;> (first | assumption | omega)) | (exact due_app0 (by omega)) | (exact due_app (by omega)) | (intros; simp; done) | (intros; simp; omega)))
      | with_reducible refine Due.mk ?_
      | omega)
  · repeat' (first
      | with_reducible first | exact Conj.nil | refine Conj.cons rfl ?_ | refine Conj.same ?_ | refine Conj.ask ?_ ?_
      | ((with_reducible refine Due.mk ?_); (first | with_reducible rfl | omega | assumption | decide | ((try simp only [goS] at *) <;> (try intro h) <;> (try intro h') <;> (try simp only [goS] at *) <;> (try simp only [rdi, rd2i, rdy, lq, Int.toNat_natCast, Nat.add_zero] at *) <;> (try simp only [rng]) <;> (first | assumption | omega)) | (exact due_app0 (by omega)) | (exact due_app (by omega)) | (intros; simp; done) | (intros; simp; omega)))
      | with_reducible refine Due.mk ?_
      | omega)
  rw [eq0]
  repeat' (first
    | ((with_reducible refine TOps.any ?_); refine TOps.callV env (by rfl) (by rfl) (by rfl) (lc) ?_)
    | refine GZp_i_2i_y ?_ ?_ ?_ ?_ ?_ ?_ ?_ ?_
    | with_reducible first | exact BzZq.mk | refine Tw.ret ?_ | refine ImZq.i fun h => ?_ | refine IkZq.i fun hk => ?_)
  exact ⟨rfl, rfl, rfl⟩
theorem rgb_y (c : Cnd) (s x y z : Nat) (w : CndW c) (h : CndOk c) (h0 : cndE c = 0) (es : c.rc = s) (g : GOk 3 c.inks.length s c.rv) (hv : inFull c.rv) (ea : c.ra = (3 : Nat)) (eb : c.rb = (c.inks.length : Nat)) (hx : x ≤ 255) (hy : y ≤ 255) (hz : z ≤ 255) :
    TC R Try.prog condition_RGB_f [.agg (encC c), .int .u8 x, .int .u8 y, .int .u8 z] [] (fun v X => v = .tup [.agg (inkA (quickL (dlQ c.rv c.inks.length s [x, y, z]) (blk c) c.tot)), .int .i64 0] ∧ X = []) := by
  have cc := condCheck_c c w
  rw [h0] at cc
  have fc := fromR_c c s [x, y, z] h es g hv ea eb rfl (fun i hi => by
    match i, hi with
    | 0, _ => exact hx
    | 1, _ => exact hy
    | 2, _ => exact hz)
  obtain ⟨q, hq⟩ : ∃ q, q = quickL (dlQ c.rv c.inks.length s [x, y, z]) (blk c) c.tot := ⟨_, rfl⟩
  rw [← hq] at fc ⊢
  refine tc0 env condition_RGB_s (by rfl) ?_
  dsimp only [condition_RGB_c, encC]
  repeat' (first
    | ((with_reducible refine TOps.any ?_); refine TOps.callV env (by rfl) (by rfl) (by rfl) (cc) ?_)
    | ((with_reducible refine TOps.any ?_); refine TOps.callE env (by rfl) (by rfl) (by rfl) ?_ (fc) (by rfl) ?_)
    | refine GZp_i_2i_y ?_ ?_ ?_ ?_ ?_ ?_ ?_ ?_
    | with_reducible first | exact BzZq.mk | refine Tw.ret ?_ | refine ImZq.i fun h => ?_ | refine IkZq.i fun hk => ?_)
  exact ⟨rfl, rfl, rfl⟩
theorem rgb_n (c : Cnd) (x y z : Int) (w : CndW c) (h0 : cndE c ≠ 0) :
    TC R Try.prog condition_RGB_f [.agg (encC c), .int .u8 x, .int .u8 y, .int .u8 z] [] (fun v X => v = .tup [.agg (inkA []), .int .i64 (cndE c)] ∧ X = []) := by
  have cc := condCheck_c c w
  refine tc0 env condition_RGB_s (by rfl) ?_
  dsimp only [condition_RGB_c, encC]
  repeat' (first
    | ((with_reducible refine TOps.any ?_); refine TOps.callV env (by rfl) (by rfl) (by rfl) (cc) ?_)
    | refine GZp_i_2i_y ?_ ?_ ?_ ?_ ?_ ?_ ?_ ?_
    | with_reducible first | exact BzZq.mk | refine Tw.ret ?_ | refine ImZq.i fun h => ?_ | refine IkZq.i fun hk => ?_)
  exact ⟨rfl, rfl, rfl⟩

/-- Process tones at their inks. -/
def plcN (c : Cnd) (l : List Int) : Nat → List Int
  | 0 => List.replicate c.inks.length 0
  | k + 1 => (plcN c l k).set (c.pr.getD k 0).toNat (l.getD k 0)
theorem plcN_len {c : Cnd} {l : List Int} : ∀ {k : Nat}, (plcN c l k).length = c.inks.length
  | 0 => by simp [plcN]
  | k + 1 => by simp only [plcN, List.length_set]; exact plcN_len
theorem plcN_tone {c : Cnd} {l : List Int} (hl : ∀ i, 0 ≤ l.getD i 0 ∧ l.getD i 0 ≤ 255) : ∀ {k : Nat}, inTone (plcN c l k)
  | 0 => fun i hi => by
    simp only [plcN, List.length_replicate] at hi ⊢
    rw [getD_repl hi]; omega
  | k + 1 => fun i hi => by
    simp only [plcN, List.length_set] at hi ⊢
    by_cases e : (c.pr.getD k 0).toNat = i
    · subst e; rw [getD_set_eq hi]; exact hl k
    · rw [getD_set_ne e]; exact plcN_tone hl i hi
theorem placed_c (c : Cnd) (l : List Int) (h : CndOk c) (h4 : c.pr.length = 4) (ll : l.length = 4) (hl : ∀ i, 0 ≤ l.getD i 0 ∧ l.getD i 0 ≤ 255) :
    TC R Try.prog condition_placed_f [.pel (encC c), .lst Ei l] [] (fun v X => v = .agg (inkA (quickL (plcN c l 4) (blk c) c.tot)) ∧ X = []) := by
  have lc := limited_c c (plcN c l 4) h (plcN_tone hl) plcN_len
  have hn := h.n
  refine tc0 env condition_placed_s (by rfl) ?_
  dsimp only [condition_placed_c, encC]
  repeat' (first
    | refine GZy_i_2i_y ll ?_ ?_ ?_ ?_ ?_ ?_ ?_ ?_
    | with_reducible first | exact BzZq.mk | refine Tw.ret ?_ | refine ImZq.i fun h => ?_ | refine IkZq.i fun hk => ?_)
  rw [ll]
  refine Tw.loopK [0, 4, 14] (fun i : Nat => i ≤ 4) (fun i => 4 - i) (fun i => [(16, .int .i64 i), (15, .int .i64 4), (5, .sla 1 1 0 c.inks.length)]) (fun i => [some (.cells [.int .u8 0, .int .u8 0, .int .u8 0, .int .u8 0, .int .u8 0, .int .u8 0, .int .u8 0, .int .u8 0]), some (.arr Ei (plcN c l i))]) ⟨0, by omega, TWk.fcanon env [some 0, some 1] (by rfl) ?_⟩ (fun i hi => ?_)
  · repeat' (first
      | with_reducible first | exact Conj.nil | refine Conj.cons rfl ?_ | refine Conj.same ?_ | refine Conj.ask ?_ ?_
      | ((with_reducible refine Due.mk ?_); (first | with_reducible rfl | omega | assumption | decide | ((try simp only [goS] at *) <;> (try intro h) <;> (try intro h') <;> (try simp only [goS] at *) <;> (try simp only [rdi, rd2i, rdy, Int.toNat_natCast, Nat.add_zero] at *) <;> (try simp only [rng]) <;> (first | assumption | omega)) | (exact due_app0 (by omega)) | (exact due_app (by omega)) | (intros; simp; done) | (intros; simp; omega)))
      | with_reducible refine Due.mk ?_
      | omega)
  have pl : (plcN c l i).length = c.inks.length := plcN_len
  rcases Nat.lt_or_ge i 4 with hi2 | hi2
  · have pb := ds_in h.dp (i := i) (by omega)
    have ps : plcN c l (i + 1) = (plcN c l i).set (c.pr.getD i 0).toNat (l.getD i 0) := rfl
    obtain ⟨p, hp⟩ : ∃ p : Nat, c.pr.getD i 0 = p := ⟨(c.pr.getD i 0).toNat, by omega⟩
    rw [hp, Int.toNat_natCast] at ps
    repeat' (first
      | refine GZy_i_2i_y (And.intro pl (And.intro ll hp)) ?_ ?_ ?_ ?_ ?_ ?_ ?_ ?_
      | with_reducible first | exact BzZq.mk | refine Tw.ret ?_ | refine ImZq.i fun h => ?_ | refine IkZq.i fun hk => ?_)
    refine ⟨i + 1, by omega, by omega, TWk.fcanon env [some 0, some 1] (by rfl) ?_⟩
    repeat' (first
      | with_reducible first | exact Conj.nil | refine Conj.cons rfl ?_ | refine Conj.same ?_ | refine Conj.ask ?_ ?_
      | ((with_reducible refine Due.mk ?_); (first | with_reducible rfl | omega | assumption | decide | ((try simp only [goS] at *) <;> (try intro h) <;> (try intro h') <;> (try simp only [goS] at *) <;> (try simp only [rdi, rd2i, rdy, Int.toNat_natCast, Nat.add_zero] at *) <;> (try simp only [rng]) <;> (first | assumption | omega)) | (exact due_app0 (by omega)) | (exact due_app (by omega)) | (intros; simp; done) | (intros; simp; omega)))
      | with_reducible refine Due.mk ?_
      | omega)
  obtain rfl : i = 4 := by omega
  have pl2 : 0 + c.inks.length ≤ (plcN c l 4).length := by omega
  repeat' (first
    | refine GZp_i_2i_y ?_ ?_ ?_ ?_ ?_ ?_ ?_ ?_
    | with_reducible first | exact BzZq.mk | refine Tw.ret ?_ | refine ImZq.i fun h => ?_ | refine IkZq.i fun hk => ?_)
  refine TOps.frz env 1 (by rfl) (by rfl) (by rfl) ?_ ?_ ?_
  · repeat' (first
      | exact pl2
      | with_reducible first | exact Conj.nil | refine Conj.cons rfl ?_ | refine Conj.same ?_ | refine Conj.ask ?_ ?_
      | ((with_reducible refine Due.mk ?_); (first | with_reducible rfl | omega | assumption | decide | ((try simp only [goS] at *) <;> (try intro h) <;> (try intro h') <;> (try simp only [goS] at *) <;> (try simp only [rdi, rd2i, rdy, Int.toNat_natCast, Nat.add_zero] at *) <;> (try simp only [rng]) <;> (first | assumption | omega)) | (exact due_app0 (by omega)) | (exact due_app (by omega)) | (intros; simp; done) | (intros; simp; omega)))
      | with_reducible refine Due.mk ?_
      | omega)
  · repeat' (first
      | exact pl2
      | with_reducible first | exact Conj.nil | refine Conj.cons rfl ?_ | refine Conj.same ?_ | refine Conj.ask ?_ ?_
      | ((with_reducible refine Due.mk ?_); (first | with_reducible rfl | omega | assumption | decide | ((try simp only [goS] at *) <;> (try intro h) <;> (try intro h') <;> (try simp only [goS] at *) <;> (try simp only [rdi, rd2i, rdy, Int.toNat_natCast, Nat.add_zero] at *) <;> (try simp only [rng]) <;> (first | assumption | omega)) | (exact due_app0 (by omega)) | (exact due_app (by omega)) | (intros; simp; done) | (intros; simp; omega)))
      | with_reducible refine Due.mk ?_
      | omega)
  rw [cut_all pl.symm]
  repeat' (first
    | ((with_reducible refine TOps.any ?_); refine TOps.callV env (by rfl) (by rfl) (by rfl) (lc) ?_)
    | refine GZp_i_2i_y ?_ ?_ ?_ ?_ ?_ ?_ ?_ ?_
    | with_reducible first | exact BzZq.mk | refine Tw.ret ?_ | refine ImZq.i fun h => ?_ | refine IkZq.i fun hk => ?_)
  exact ⟨rfl, rfl, rfl⟩
theorem process_y (c : Cnd) (x0 x1 x2 x3 : Nat) (w : CndW c) (h : CndOk c) (h0 : cndE c = 0) (h4 : c.pr.length = 4) (hx : x0 ≤ 255 ∧ x1 ≤ 255 ∧ x2 ≤ 255 ∧ x3 ≤ 255) :
    TC R Try.prog condition_Process_f [.agg (encC c), .agg [.int .u8 x0, .int .u8 x1, .int .u8 x2, .int .u8 x3]] [] (fun v X => v = .tup [.agg (inkA (quickL (plcN c [(x0 : Int), x1, x2, x3] 4) (blk c) c.tot)), .int .i64 0] ∧ X = []) := by
  have cc := condCheck_c c w
  rw [h0] at cc
  have pc := placed_c c [(x0 : Int), x1, x2, x3] h h4 rfl (fun i => by
    match i with
    | 0 => exact (show 0 ≤ (x0 : Int) ∧ (x0 : Int) ≤ 255 by omega)
    | 1 => exact (show 0 ≤ (x1 : Int) ∧ (x1 : Int) ≤ 255 by omega)
    | 2 => exact (show 0 ≤ (x2 : Int) ∧ (x2 : Int) ≤ 255 by omega)
    | 3 => exact (show 0 ≤ (x3 : Int) ∧ (x3 : Int) ≤ 255 by omega)
    | i + 4 => exact (show 0 ≤ (0 : Int) ∧ (0 : Int) ≤ 255 by omega))
  obtain ⟨q, hq⟩ : ∃ q, q = quickL (plcN c [(x0 : Int), x1, x2, x3] 4) (blk c) c.tot := ⟨_, rfl⟩
  rw [← hq] at pc ⊢
  refine tc0 env condition_Process_s (by rfl) ?_
  dsimp only [condition_Process_c, encC]
  repeat' (first
    | ((with_reducible refine TOps.any ?_); refine TOps.callV env (by rfl) (by rfl) (by rfl) (cc) ?_)
    | refine GZp_i_2i_y ?_ ?_ ?_ ?_ ?_ ?_ ?_ ?_
    | with_reducible first | exact BzZq.mk | refine Tw.ret ?_ | refine ImZq.i fun h => ?_ | refine IkZq.i fun hk => ?_)
  refine Tw.loopK [2, 22] (fun i : Nat => i ≤ 4) (fun i => 4 - i) (fun i => [(23, .int .i64 i), (4, .ptr 1 0), (7, .sla 1 2 0 4)])
    (fun i => [some (.cells [.lst Es c.inks, .lst Ei c.pr, .lst Ei c.li, .int .i64 c.ga, .int .i64 c.gb, .int .i64 c.gc, .lst Ei c.gv, .int .i64 c.ra, .int .i64 c.rb, .int .i64 c.rc, .lst Ei c.rv, .lst Es6iL2iJLiJ c.sp, .int .i64 c.tot]), some (.cells [.int .u8 0, .int .u8 0, .int .u8 0, .int .u8 0, .int .u8 0, .int .u8 0, .int .u8 0, .int .u8 0]), some (.arr Ei [if 0 < i then (x0 : Int) else (0 : Int), if 1 < i then (x1 : Int) else (0 : Int), if 2 < i then (x2 : Int) else (0 : Int), if 3 < i then (x3 : Int) else (0 : Int)])])
    ⟨0, by omega, TWk.fcanon env [some 0, some 2, some 3] (by rfl) ?_⟩ (fun i hi => ?_)
  · repeat' (first
      | with_reducible first | exact Conj.nil | refine Conj.cons rfl ?_ | refine Conj.same ?_ | refine Conj.ask ?_ ?_
      | ((with_reducible refine Due.mk ?_); (first | with_reducible rfl | omega | assumption | decide | ((try simp only [goS] at *) <;> (try intro h) <;> (try intro h') <;> (try simp only [goS] at *) <;> (try simp only [rdi, rd2i, rdy, Int.toNat_natCast, Nat.add_zero] at *) <;> (try simp only [rng]) <;> (first | assumption | omega)) | (exact due_app0 (by omega)) | (exact due_app (by omega)) | (intros; simp; done) | (intros; simp; omega)))
      | with_reducible refine Due.mk ?_
      | omega)
  rcases (show i = 0 ∨ i = 1 ∨ i = 2 ∨ i = 3 ∨ i = 4 by omega) with rfl | rfl | rfl | rfl | rfl
  · repeat' (first
      | refine GZp_i_2i_y ?_ ?_ ?_ ?_ ?_ ?_ ?_ ?_
      | with_reducible first | exact BzZq.mk | refine Tw.ret ?_ | refine ImZq.i fun h => ?_ | refine IkZq.i fun hk => ?_)
    refine ⟨1, by omega, by omega, TWk.fcanon env [some 0, some 1, some 2] (by rfl) ?_⟩
    repeat' (first
      | with_reducible first | exact Conj.nil | refine Conj.cons rfl ?_ | refine Conj.same ?_ | refine Conj.ask ?_ ?_
      | ((with_reducible refine Due.mk ?_); (first | with_reducible rfl | omega | assumption | decide | ((try simp only [goS] at *) <;> (try intro h) <;> (try intro h') <;> (try simp only [goS] at *) <;> (try simp only [rdi, rd2i, rdy, Int.toNat_natCast, Nat.add_zero] at *) <;> (try simp only [rng]) <;> (first | assumption | omega)) | (exact due_app0 (by omega)) | (exact due_app (by omega)) | (intros; simp; done) | (intros; simp; omega)))
      | with_reducible refine Due.mk ?_
      | omega)
  · repeat' (first
      | refine GZp_i_2i_y ?_ ?_ ?_ ?_ ?_ ?_ ?_ ?_
      | with_reducible first | exact BzZq.mk | refine Tw.ret ?_ | refine ImZq.i fun h => ?_ | refine IkZq.i fun hk => ?_)
    refine ⟨2, by omega, by omega, TWk.fcanon env [some 0, some 1, some 2] (by rfl) ?_⟩
    repeat' (first
      | with_reducible first | exact Conj.nil | refine Conj.cons rfl ?_ | refine Conj.same ?_ | refine Conj.ask ?_ ?_
      | ((with_reducible refine Due.mk ?_); (first | with_reducible rfl | omega | assumption | decide | ((try simp only [goS] at *) <;> (try intro h) <;> (try intro h') <;> (try simp only [goS] at *) <;> (try simp only [rdi, rd2i, rdy, Int.toNat_natCast, Nat.add_zero] at *) <;> (try simp only [rng]) <;> (first | assumption | omega)) | (exact due_app0 (by omega)) | (exact due_app (by omega)) | (intros; simp; done) | (intros; simp; omega)))
      | with_reducible refine Due.mk ?_
      | omega)
  · repeat' (first
      | refine GZp_i_2i_y ?_ ?_ ?_ ?_ ?_ ?_ ?_ ?_
      | with_reducible first | exact BzZq.mk | refine Tw.ret ?_ | refine ImZq.i fun h => ?_ | refine IkZq.i fun hk => ?_)
    refine ⟨3, by omega, by omega, TWk.fcanon env [some 0, some 1, some 2] (by rfl) ?_⟩
    repeat' (first
      | with_reducible first | exact Conj.nil | refine Conj.cons rfl ?_ | refine Conj.same ?_ | refine Conj.ask ?_ ?_
      | ((with_reducible refine Due.mk ?_); (first | with_reducible rfl | omega | assumption | decide | ((try simp only [goS] at *) <;> (try intro h) <;> (try intro h') <;> (try simp only [goS] at *) <;> (try simp only [rdi, rd2i, rdy, Int.toNat_natCast, Nat.add_zero] at *) <;> (try simp only [rng]) <;> (first | assumption | omega)) | (exact due_app0 (by omega)) | (exact due_app (by omega)) | (intros; simp; done) | (intros; simp; omega)))
      | with_reducible refine Due.mk ?_
      | omega)
  · repeat' (first
      | refine GZp_i_2i_y ?_ ?_ ?_ ?_ ?_ ?_ ?_ ?_
      | with_reducible first | exact BzZq.mk | refine Tw.ret ?_ | refine ImZq.i fun h => ?_ | refine IkZq.i fun hk => ?_)
    refine ⟨4, by omega, by omega, TWk.fcanon env [some 0, some 1, some 2] (by rfl) ?_⟩
    repeat' (first
      | with_reducible first | exact Conj.nil | refine Conj.cons rfl ?_ | refine Conj.same ?_ | refine Conj.ask ?_ ?_
      | ((with_reducible refine Due.mk ?_); (first | with_reducible rfl | omega | assumption | decide | ((try simp only [goS] at *) <;> (try intro h) <;> (try intro h') <;> (try simp only [goS] at *) <;> (try simp only [rdi, rd2i, rdy, Int.toNat_natCast, Nat.add_zero] at *) <;> (try simp only [rng]) <;> (first | assumption | omega)) | (exact due_app0 (by omega)) | (exact due_app (by omega)) | (intros; simp; done) | (intros; simp; omega)))
      | with_reducible refine Due.mk ?_
      | omega)
  · repeat' (first
      | refine GZp_i_2i_y ?_ ?_ ?_ ?_ ?_ ?_ ?_ ?_
      | with_reducible first | exact BzZq.mk | refine Tw.ret ?_ | refine ImZq.i fun h => ?_ | refine IkZq.i fun hk => ?_)
    refine TOps.frz env 2 (e := Ei) (xs := [(x0 : Int), (x1 : Int), (x2 : Int), (x3 : Int)]) (by rfl) (by rfl) (by rfl) ?_ ?_ ?_
    · repeat' (first
        | with_reducible first | exact Conj.nil | refine Conj.cons rfl ?_ | refine Conj.same ?_ | refine Conj.ask ?_ ?_
        | ((with_reducible refine Due.mk ?_); (first | with_reducible rfl | omega | assumption | decide | ((try simp only [goS] at *) <;> (try intro h) <;> (try intro h') <;> (try simp only [goS] at *) <;> (try simp only [rdi, rd2i, rdy, Int.toNat_natCast, Nat.add_zero] at *) <;> (try simp only [rng]) <;> (first | assumption | omega)) | (exact due_app0 (by omega)) | (exact due_app (by omega)) | (intros; simp; done) | (intros; simp; omega)))
        | with_reducible refine Due.mk ?_
        | omega)
    · repeat' (first
        | with_reducible first | exact Conj.nil | refine Conj.cons rfl ?_ | refine Conj.same ?_ | refine Conj.ask ?_ ?_
        | ((with_reducible refine Due.mk ?_); (first | with_reducible rfl | omega | assumption | decide | ((try simp only [goS] at *) <;> (try intro h) <;> (try intro h') <;> (try simp only [goS] at *) <;> (try simp only [rdi, rd2i, rdy, Int.toNat_natCast, Nat.add_zero] at *) <;> (try simp only [rng]) <;> (first | assumption | omega)) | (exact due_app0 (by omega)) | (exact due_app (by omega)) | (intros; simp; done) | (intros; simp; omega)))
        | with_reducible refine Due.mk ?_
        | omega)
    repeat' (first
      | ((with_reducible refine TOps.any ?_); refine TOps.callE env (by rfl) (by rfl) (by rfl) ?_ (pc) (by rfl) ?_)
      | refine GZp_i_2i_y ?_ ?_ ?_ ?_ ?_ ?_ ?_ ?_
      | with_reducible first | exact BzZq.mk | refine Tw.ret ?_ | refine ImZq.i fun h => ?_ | refine IkZq.i fun hk => ?_)
    exact ⟨rfl, rfl, rfl⟩
theorem process_0 (c : Cnd) (x0 x1 x2 x3 : Int) (w : CndW c) (h0 : cndE c = 0) (h4 : c.pr.length = 0) :
    TC R Try.prog condition_Process_f [.agg (encC c), .agg [.int .u8 x0, .int .u8 x1, .int .u8 x2, .int .u8 x3]] [] (fun v X => v = .tup [.agg (inkA []), .int .i64 8] ∧ X = []) := by
  have cc := condCheck_c c w
  rw [h0] at cc
  refine tc0 env condition_Process_s (by rfl) ?_
  dsimp only [condition_Process_c, encC]
  repeat' (first
    | ((with_reducible refine TOps.any ?_); refine TOps.callV env (by rfl) (by rfl) (by rfl) (cc) ?_)
    | refine GZp_i_2i_y ?_ ?_ ?_ ?_ ?_ ?_ ?_ ?_
    | with_reducible first | exact BzZq.mk | refine Tw.ret ?_ | refine ImZq.i fun h => ?_ | refine IkZq.i fun hk => ?_)
  exact ⟨rfl, rfl, rfl⟩
theorem process_n (c : Cnd) (x0 x1 x2 x3 : Int) (w : CndW c) (h0 : cndE c ≠ 0) :
    TC R Try.prog condition_Process_f [.agg (encC c), .agg [.int .u8 x0, .int .u8 x1, .int .u8 x2, .int .u8 x3]] [] (fun v X => v = .tup [.agg (inkA []), .int .i64 (cndE c)] ∧ X = []) := by
  have cc := condCheck_c c w
  refine tc0 env condition_Process_s (by rfl) ?_
  dsimp only [condition_Process_c, encC]
  repeat' (first
    | ((with_reducible refine TOps.any ?_); refine TOps.callV env (by rfl) (by rfl) (by rfl) (cc) ?_)
    | refine GZp_i_2i_y ?_ ?_ ?_ ?_ ?_ ?_ ?_ ?_
    | with_reducible first | exact BzZq.mk | refine Tw.ret ?_ | refine ImZq.i fun h => ?_ | refine IkZq.i fun hk => ?_)
  exact ⟨rfl, rfl, rfl⟩
end Go.Proofs.Ytogbkhopanaoiaa
