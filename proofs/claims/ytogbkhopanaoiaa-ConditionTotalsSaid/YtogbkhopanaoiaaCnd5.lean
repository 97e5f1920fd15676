/- Conditions: tones within the total, tables applied. -/
import Derived.Test.YtogbkhopanaoiaaCnd4
import Derived.Test.YtogbkhopanaoiaaCnd3
import Derived.Test.YtogbkhopanaoiaaInk2
import Derived.Test.YtogbkhopanaoiaaGo
namespace Go.Proofs.Ytogbkhopanaoiaa
open Go Go.Lite
set_option linter.unusedVariables false
set_option linter.unusedSimpArgs false
set_option maxRecDepth 100000
set_option maxHeartbeats 4000000
-- @simp rdi rd2i rdy

abbrev inkA (l : List Int) : List (TV A) := [.int .u8 (l.getD 0 0), .int .u8 (l.getD 1 0), .int .u8 (l.getD 2 0), .int .u8 (l.getD 3 0), .int .u8 (l.getD 4 0), .int .u8 (l.getD 5 0), .int .u8 (l.getD 6 0), .int .u8 (l.getD 7 0)]
def blk (c : Cnd) : Int := if c.pr.length = 4 then c.pr.getD 3 0 else -1
theorem ds_in {l : List Int} {n : Int} (h : dsE l n = 0) {i : Nat} (hi : i < l.length) : 0 ≤ l.getD i 0 ∧ l.getD i 0 < n := by
  have h1 := fstE_zero.1 h i hi
  unfold dsF at h1
  split at h1
  · omega
  · omega
theorem blk_bd {c : Cnd} (h : CndOk c) : -1 ≤ blk c ∧ blk c < c.inks.length := by
  unfold blk
  have := h.n
  split
  · have := ds_in h.dp (i := 3) (by omega)
    omega
  · omega
theorem limited_c (c : Cnd) (t : List Int) (h : CndOk c) (ht : inTone t) (hl : t.length = c.inks.length) :
    TC R Try.prog condition_limited_f [.pel (encC c), .lst Ei t] [] (fun v X => v = .agg (inkA (quickL t (blk c) c.tot)) ∧ X = []) := by
  have hn := h.n
  have bb := blk_bd h
  have ok : InkOk t (blk c) c.tot := ⟨ht, by omega, h.tot⟩
  have qc := quick_c t (blk c) c.tot ok (by unfold Due; omega)
  obtain ⟨l, hL⟩ : ∃ l, l = quickL t (blk c) c.tot := ⟨_, rfl⟩
  have ll : l.length = t.length := by rw [hL]; exact quickL_len _ _ _
  have lb : ∀ i, i < l.length → 0 ≤ l.getD i 0 ∧ l.getD i 0 ≤ 255 := fun i hi => by
    rw [hL] at hi ⊢
    exact quickL_tone ok i hi
  rw [← hL] at qc
  have l0 : ∀ i, 0 ≤ l.getD i 0 ∧ l.getD i 0 ≤ 255 := fun i => by
    rcases Nat.lt_or_ge i l.length with h1 | h1
    · exact lb i h1
    · rw [List.getD_eq_getElem?_getD, List.getElem?_eq_none h1]; decide
  have e8 : ptab 8 l.length (fun i => l.getD i 0) = tab 8 fun i => l.getD i 0 := tab_congr fun i _ => by
    by_cases h1 : i < l.length
    · rw [if_pos h1]
    · rw [if_neg h1, List.getD_eq_getElem?_getD, List.getElem?_eq_none (by omega)]; rfl
  have pr := h.pr
  obtain ⟨b, hb⟩ : ∃ b, b = blk c := ⟨_, rfl⟩
  rw [← hb] at qc
  refine tc0 env condition_limited_s (by rfl) ?_
  dsimp only [condition_limited_c, encC]
  rw [← hL]
  by_cases h4 : c.pr.length = 4
  · have e3 : c.pr.getD 3 0 = b := by rw [hb]; unfold blk; rw [if_pos h4]
    have e3b : c.pr.getD (Int.toNat 3) (R.d Ei) = b := e3
    repeat' (first
      | refine GZp_i_2i_y ?_ ?_ ?_ ?_ ?_ ?_ ?_ ?_
      | with_reducible first | exact BzZq.mk | refine Tw.ret ?_ | refine ImZq.i fun h => ?_ | refine IkZq.i fun hk => ?_)
    rw [e3b]
    repeat' (first
      | ((with_reducible refine TOps.any ?_); refine TOps.callV env (by rfl) (by rfl) (by rfl) (qc) ?_)
      | refine GZp_i_2i_y ?_ ?_ ?_ ?_ ?_ ?_ ?_ ?_
      | with_reducible first | exact BzZq.mk | refine Tw.ret ?_ | refine ImZq.i fun h => ?_ | refine IkZq.i fun hk => ?_)
    refine Tw.weaken (TWk.re (H' := [some (.cells [.int .u8 0, .int .u8 0, .int .u8 0, .int .u8 0, .int .u8 0, .int .u8 0, .int .u8 0, .int .u8 0]), some (.arr Ey (ptab 8 0 fun i => l.getD i 0))]) (by rfl)) ?_
    refine Tw.loopK [4, 6, 27, 28] (fun i : Nat => i ≤ l.length) (fun i => l.length - i) (fun i => [(29, .int .i64 i)]) (fun i => [some (.cells [.int .u8 0, .int .u8 0, .int .u8 0, .int .u8 0, .int .u8 0, .int .u8 0, .int .u8 0, .int .u8 0]), some (.arr Ey (ptab 8 i fun i => l.getD i 0))]) ⟨0, by omega, TWk.fcanon env [some 0, some 1] (by rfl) ?_⟩ (fun i hi => ?_)
    · repeat' (first
        | with_reducible first | exact Conj.nil | refine Conj.cons rfl ?_ | refine Conj.same ?_ | refine Conj.ask ?_ ?_
        | ((with_reducible refine Due.mk ?_); (first | with_reducible rfl | omega | assumption | decide | ((try simp only [goS] at *) <;> (try intro h) <;> (try intro h') <;> (try simp only [goS] at *) <;> (try simp only [rdi, rd2i, rdy, Int.toNat_natCast, Nat.add_zero] at *) <;> (try simp only [rng]) <;> (first | assumption | omega)) | (exact due_app0 (by omega)) | (exact due_app (by omega)) | (intros; simp; done) | (intros; simp; omega)))
        | with_reducible refine Due.mk ?_
        | omega)
    have pl : (ptab 8 i fun i => l.getD i 0).length = 8 := ptab_len
    rcases Nat.lt_or_ge i l.length with hi2 | hi2
    · have vb := l0 i
      have em : l.getD i 0 % 256 = l.getD i 0 := Int.emod_eq_of_lt vb.1 (by omega)
      have ps : (ptab 8 i fun i => l.getD i 0).set i (l.getD i 0 % 256) = ptab 8 (i + 1) fun i => l.getD i 0 := by rw [em]; exact ptab_set (f := fun i => l.getD i 0)
      repeat' (first
        | refine GZy_i_2i_y pl ?_ ?_ ?_ ?_ ?_ ?_ ?_ ?_
        | with_reducible first | exact BzZq.mk | refine Tw.ret ?_ | refine ImZq.i fun h => ?_ | refine IkZq.i fun hk => ?_)
      refine ⟨i + 1, by omega, by omega, TWk.fcanon env [some 0, some 1] (by rfl) ?_⟩
      repeat' (first
        | exact ps.symm
        | with_reducible first | exact Conj.nil | refine Conj.cons rfl ?_ | refine Conj.same ?_ | refine Conj.ask ?_ ?_
        | ((with_reducible refine Due.mk ?_); (first | with_reducible rfl | omega | assumption | decide | ((try simp only [goS] at *) <;> (try intro h) <;> (try intro h') <;> (try simp only [goS] at *) <;> (try simp only [rdi, rd2i, rdy, Int.toNat_natCast, Nat.add_zero] at *) <;> (try simp only [rng]) <;> (first | assumption | omega)) | (exact due_app0 (by omega)) | (exact due_app (by omega)) | (intros; simp; done) | (intros; simp; omega)))
        | with_reducible refine Due.mk ?_
        | omega)
    obtain rfl : i = l.length := by omega
    rw [e8]
    refine Tw.weaken (TWk.re (H' := [some (.cells [.int .u8 0, .int .u8 0, .int .u8 0, .int .u8 0, .int .u8 0, .int .u8 0, .int .u8 0, .int .u8 0]), some (.cells (inkA l))]) (by rfl)) ?_
    repeat' (first
      | refine GZp_i_2i_y ?_ ?_ ?_ ?_ ?_ ?_ ?_ ?_
      | with_reducible first | exact BzZq.mk | refine Tw.ret ?_ | refine ImZq.i fun h => ?_ | refine IkZq.i fun hk => ?_)
    exact ⟨rfl, rfl, rfl⟩
  · have e3 : (-1 : Int) = b := by rw [hb]; unfold blk; rw [if_neg h4]
    repeat' (first
      | refine GZp_i_2i_y ?_ ?_ ?_ ?_ ?_ ?_ ?_ ?_
      | with_reducible first | exact BzZq.mk | refine Tw.ret ?_ | refine ImZq.i fun h => ?_ | refine IkZq.i fun hk => ?_)
    rw [e3]
    repeat' (first
      | ((with_reducible refine TOps.any ?_); refine TOps.callV env (by rfl) (by rfl) (by rfl) (qc) ?_)
      | refine GZp_i_2i_y ?_ ?_ ?_ ?_ ?_ ?_ ?_ ?_
      | with_reducible first | exact BzZq.mk | refine Tw.ret ?_ | refine ImZq.i fun h => ?_ | refine IkZq.i fun hk => ?_)
    refine Tw.weaken (TWk.re (H' := [some (.cells [.int .u8 0, .int .u8 0, .int .u8 0, .int .u8 0, .int .u8 0, .int .u8 0, .int .u8 0, .int .u8 0]), some (.arr Ey (ptab 8 0 fun i => l.getD i 0))]) (by rfl)) ?_
    refine Tw.loopK [4, 6, 27, 28] (fun i : Nat => i ≤ l.length) (fun i => l.length - i) (fun i => [(29, .int .i64 i)]) (fun i => [some (.cells [.int .u8 0, .int .u8 0, .int .u8 0, .int .u8 0, .int .u8 0, .int .u8 0, .int .u8 0, .int .u8 0]), some (.arr Ey (ptab 8 i fun i => l.getD i 0))]) ⟨0, by omega, TWk.fcanon env [some 0, some 1] (by rfl) ?_⟩ (fun i hi => ?_)
    · repeat' (first
        | with_reducible first | exact Conj.nil | refine Conj.cons rfl ?_ | refine Conj.same ?_ | refine Conj.ask ?_ ?_
        | ((with_reducible refine Due.mk ?_); (first | with_reducible rfl | omega | assumption | decide | ((try simp only [goS] at *) <;> (try intro h) <;> (try intro h') <;> (try simp only [goS] at *) <;> (try simp only [rdi, rd2i, rdy, Int.toNat_natCast, Nat.add_zero] at *) <;> (try simp only [rng]) <;> (first | assumption | omega)) | (exact due_app0 (by omega)) | (exact due_app (by omega)) | (intros; simp; done) | (intros; simp; omega)))
        | with_reducible refine Due.mk ?_
        | omega)
    have pl : (ptab 8 i fun i => l.getD i 0).length = 8 := ptab_len
    rcases Nat.lt_or_ge i l.length with hi2 | hi2
    · have vb := l0 i
      have em : l.getD i 0 % 256 = l.getD i 0 := Int.emod_eq_of_lt vb.1 (by omega)
      have ps : (ptab 8 i fun i => l.getD i 0).set i (l.getD i 0 % 256) = ptab 8 (i + 1) fun i => l.getD i 0 := by rw [em]; exact ptab_set (f := fun i => l.getD i 0)
      repeat' (first
        | refine GZy_i_2i_y pl ?_ ?_ ?_ ?_ ?_ ?_ ?_ ?_
        | with_reducible first | exact BzZq.mk | refine Tw.ret ?_ | refine ImZq.i fun h => ?_ | refine IkZq.i fun hk => ?_)
      refine ⟨i + 1, by omega, by omega, TWk.fcanon env [some 0, some 1] (by rfl) ?_⟩
      repeat' (first
        | exact ps.symm
        | with_reducible first | exact Conj.nil | refine Conj.cons rfl ?_ | refine Conj.same ?_ | refine Conj.ask ?_ ?_
        | ((with_reducible refine Due.mk ?_); (first | with_reducible rfl | omega | assumption | decide | ((try simp only [goS] at *) <;> (try intro h) <;> (try intro h') <;> (try simp only [goS] at *) <;> (try simp only [rdi, rd2i, rdy, Int.toNat_natCast, Nat.add_zero] at *) <;> (try simp only [rng]) <;> (first | assumption | omega)) | (exact due_app0 (by omega)) | (exact due_app (by omega)) | (intros; simp; done) | (intros; simp; omega)))
        | with_reducible refine Due.mk ?_
        | omega)
    obtain rfl : i = l.length := by omega
    rw [e8]
    refine Tw.weaken (TWk.re (H' := [some (.cells [.int .u8 0, .int .u8 0, .int .u8 0, .int .u8 0, .int .u8 0, .int .u8 0, .int .u8 0, .int .u8 0]), some (.cells (inkA l))]) (by rfl)) ?_
    repeat' (first
      | refine GZp_i_2i_y ?_ ?_ ?_ ?_ ?_ ?_ ?_ ?_
      | with_reducible first | exact BzZq.mk | refine Tw.ret ?_ | refine ImZq.i fun h => ?_ | refine IkZq.i fun hk => ?_)
    exact ⟨rfl, rfl, rfl⟩
theorem Less.tail4 {a b c d : TV A} {rest : List (TV A)} (ha : thfree a = true) (hb : thfree b = true) (hc : thfree c = true) (hd : thfree d = true) : Less (emb R (.pel [a, b, c, d])) (emb R (.pel (a :: b :: c :: d :: rest))) := by
  show Less (.pp (embC R [a, b, c, d])) (.pp (embC R (a :: b :: c :: d :: rest)))
  refine Less.pp (by rw [embC_length, embC_length]; simp) fun i h1 h2 => ?_
  match i, h1 with
  | 0, _ => exact Less.same ha
  | 1, _ => exact Less.same hb
  | 2, _ => exact Less.same hc
  | 3, _ => exact Less.same hd
theorem dlQuick_p (inn out s : Nat) (vals : List Int) (xs : List Nat) (rest : List (TV A)) (g : GOk inn out s vals) (hv : inFull vals) (hx : xs.length = inn ∧ ∀ i, i < inn → xs.getD i 0 ≤ 255) :
    TC R Try.prog devicelink_Quick_f [.pel (.int .i64 inn :: .int .i64 out :: .int .i64 s :: .lst Ei vals :: rest), .lst Ei (nz xs)] []
    (fun v X => v = .sla 1 0 0 out ∧ X = [some (.arr Ei (dlQ vals out s xs))]) := by
  have h := dlQuick_r inn out s vals xs g hv hx
  refine TC.args ?_ ?_ h
  · rfl
  intro i h1 h2
  match i, h1 with
  | 0, _ => exact Less.tail4 rfl rfl rfl rfl
  | 1, _ => exact Less.same rfl
/-- A grid of a condition. -/
theorem tb_ok {a b c : Int} {vals : List Int} {i o : Int} (h : tbE a b c vals i o = 0) : ∃ s : Nat, ∃ inn out : Nat, a = inn ∧ b = out ∧ c = s ∧ i = inn ∧ o = out ∧ GOk inn out s vals ∧ inFull vals := by
  unfold tbE at h
  split at h
  · rename_i h1; exact absurd h h1
  rename_i h1
  split at h
  · omega
  rename_i h2
  have h3 : dlE a b c vals = 0 := by simpa using h1
  unfold dlE at h3
  split at h3
  · rename_i h4; exact absurd h3 h4
  rename_i h4
  obtain ⟨inn, out, s, rfl, rfl, rfl, g⟩ := chk_ok (show chkE a b c vals = 0 by simpa using h4)
  refine ⟨s, inn, out, rfl, rfl, rfl, by omega, by omega, g, fun v hv => ?_⟩
  obtain ⟨k, hk, rfl⟩ := mem_getD (d := 0) hv
  have h5 := fstE_zero.1 h3 k hk
  unfold dlF at h5
  split at h5
  · omega
  · omega
theorem fromG_c (c : Cnd) (s : Nat) (comps : List Nat) (h : CndOk c) (es : c.gc = s) (g : GOk 1 c.inks.length s c.gv) (hv : inFull c.gv) (ea : c.ga = 1) (eb : c.gb = (c.inks.length : Nat)) (hc : comps.length = 1) (hb : ∀ i, i < 1 → comps.getD i 0 ≤ 255) :
    TC R Try.prog condition_from_f [.pel (encC c), .pel (.int .i64 c.ga :: .int .i64 c.gb :: .int .i64 c.gc :: .lst Ei c.gv :: [.int .i64 c.ra, .int .i64 c.rb, .int .i64 c.rc, .lst Ei c.rv, .lst Es6iL2iJLiJ c.sp, .int .i64 c.tot]), .lst Ey (nz comps)] [] (fun v X => v = .agg (inkA (quickL (dlQ c.gv c.inks.length s comps) (blk c) c.tot)) ∧ X = []) := by
  have dq := dlQuick_p 1 c.inks.length s c.gv comps [.int .i64 c.ra, .int .i64 c.rb, .int .i64 c.rc, .lst Ei c.rv, .lst Es6iL2iJLiJ c.sp, .int .i64 c.tot] g hv ⟨hc, fun i hi => hb i hi⟩
  have gs := g.step
  have lc := limited_c c (dlQ c.gv c.inks.length s comps) h (dlQ_bd hv (by omega)) dlQ_len
  have lq : (dlQ c.gv c.inks.length s comps).length = c.inks.length := dlQ_len
  obtain ⟨q, hq⟩ : ∃ q, q = dlQ c.gv c.inks.length s comps := ⟨_, rfl⟩
  rw [← hq] at dq lc lq ⊢
  have lz : (nz comps).length = 1 := by rw [nz_len]; exact hc
  have en : nz comps = tab 1 fun i => ((comps.getD i 0 : Nat) : Int) := is_tab 0 lz fun i hi => nz_get
  rw [show ((1 : Nat) : Int) = c.ga by omega, show ((c.inks.length : Nat) : Int) = c.gb from eb.symm, show ((s : Nat) : Int) = c.gc from es.symm] at dq
  have eq0 : cut q 0 c.inks.length = q := cut_all lq.symm
  refine tc0 env condition_from_s (by rfl) ?_
  dsimp only [condition_from_c, encC]
  repeat' (first
    | refine GZy_i_2i_y lz ?_ ?_ ?_ ?_ ?_ ?_ ?_ ?_
    | with_reducible first | exact BzZq.mk | refine Tw.ret ?_ | refine ImZq.i fun h => ?_ | refine IkZq.i fun hk => ?_)
  rw [lz, Int.toNat_natCast]
  refine Tw.loopK [0, 1, 6, 13, 14] (fun i : Nat => i ≤ 1) (fun i => 1 - i) (fun i => [(15, .int .i64 i), (7, .sla 1 1 0 1)]) (fun i => [some (.cells [.int .u8 0, .int .u8 0, .int .u8 0, .int .u8 0, .int .u8 0, .int .u8 0, .int .u8 0, .int .u8 0]), some (.arr Ei (ptab 1 i fun i => ((comps.getD i 0 : Nat) : Int)))]) ⟨0, by omega, ?_⟩ (fun i hi => ?_)
  · rw [ptab_zero]
    refine TWk.fcanon env [some 0, some 1] (by rfl) ?_
    repeat' (first
      | exact lz
      | exact lz.symm
      | with_reducible first | exact Conj.nil | refine Conj.cons rfl ?_ | refine Conj.same ?_ | refine Conj.ask ?_ ?_
      | ((with_reducible refine Due.mk ?_); (first | with_reducible rfl | omega | assumption | decide | ((try simp only [goS] at *) <;> (try intro h) <;> (try intro h') <;> (try simp only [goS] at *) <;> (try simp only [rdi, rd2i, rdy, Int.toNat_natCast, Nat.add_zero] at *) <;> (try simp only [rng]) <;> (first | assumption | omega)) | (exact due_app0 (by omega)) | (exact due_app (by omega)) | (intros; simp; done) | (intros; simp; omega)))
      | with_reducible refine Due.mk ?_
      | omega)
  have pl : (ptab 1 i fun i => ((comps.getD i 0 : Nat) : Int)).length = 1 := ptab_len
  rcases Nat.lt_or_ge i 1 with hi2 | hi2
  · have xb := hb i hi2
    have e1 : (nz comps).getD i 0 = ((comps.getD i 0 : Nat) : Int) := nz_get
    have ps : (ptab 1 i fun i => ((comps.getD i 0 : Nat) : Int)).set i ((nz comps).getD i 0) = ptab 1 (i + 1) fun i => ((comps.getD i 0 : Nat) : Int) := by rw [e1]; exact ptab_set (f := fun i => ((comps.getD i 0 : Nat) : Int))
    repeat' (first
      | refine GZy_i_2i_y (And.intro pl (And.intro lz e1)) ?_ ?_ ?_ ?_ ?_ ?_ ?_ ?_
      | with_reducible first | exact BzZq.mk | refine Tw.ret ?_ | refine ImZq.i fun h => ?_ | refine IkZq.i fun hk => ?_)
    refine ⟨i + 1, by omega, by omega, TWk.fcanon env [some 0, some 1] (by rfl) ?_⟩
    repeat' (first
      | exact ps.symm
      | with_reducible first | exact Conj.nil | refine Conj.cons rfl ?_ | refine Conj.same ?_ | refine Conj.ask ?_ ?_
      | ((with_reducible refine Due.mk ?_); (first | with_reducible rfl | omega | assumption | decide | ((try simp only [goS] at *) <;> (try intro h) <;> (try intro h') <;> (try simp only [goS] at *) <;> (try simp only [rdi, rd2i, rdy, Int.toNat_natCast, Nat.add_zero] at *) <;> (try simp only [rng]) <;> (first | assumption | omega)) | (exact due_app0 (by omega)) | (exact due_app (by omega)) | (intros; simp; done) | (intros; simp; omega)))
      | with_reducible refine Due.mk ?_
      | omega)
  obtain rfl : i = 1 := by omega
  rw [ptab_all, ← en]
  have pl2 : 0 + 1 ≤ (nz comps).length := by omega
  repeat' (first
    | refine GZp_i_2i_y ?_ ?_ ?_ ?_ ?_ ?_ ?_ ?_
    | with_reducible first | exact BzZq.mk | refine Tw.ret ?_ | refine ImZq.i fun h => ?_ | refine IkZq.i fun hk => ?_)
  refine TOps.frz env 1 (by rfl) (by rfl) (by rfl) ?_ ?_ ?_
  · repeat' (first
      | exact pl2
      | with_reducible first | exact Conj.nil | refine Conj.cons rfl ?_ | refine Conj.same ?_ | refine Conj.ask ?_ ?_
      | ((with_reducible refine Due.mk ?_); (first | with_reducible rfl | omega | assumption | decide | ((try simp only [goS] at *) <;> (try intro h) <;> (try intro h') <;> (try simp only [goS] at *) <;> (try simp only [rdi, rd2i, rdy, Int.toNat_natCast, Nat.add_zero] at *) <;> (try simp only [rng]) <;> (first | assumption | omega)) | (exact due_app0 (by omega)) | (exact due_app (by omega)) | (intros; simp; done) | (intros; simp; omega)))
      | with_reducible refine Due.mk ?_
      | omega)
  · repeat' (first
      | exact pl2
      | with_reducible first | exact Conj.nil | refine Conj.cons rfl ?_ | refine Conj.same ?_ | refine Conj.ask ?_ ?_
      | ((with_reducible refine Due.mk ?_); (first | with_reducible rfl | omega | assumption | decide | ((try simp only [goS] at *) <;> (try intro h) <;> (try intro h') <;> (try simp only [goS] at *) <;> (try simp only [rdi, rd2i, rdy, Int.toNat_natCast, Nat.add_zero] at *) <;> (try simp only [rng]) <;> (first | assumption | omega)) | (exact due_app0 (by omega)) | (exact due_app (by omega)) | (intros; simp; done) | (intros; simp; omega)))
      | with_reducible refine Due.mk ?_
      | omega)
  rw [cut_all lz.symm]
  repeat' (first
    | ((with_reducible refine TOps.any ?_); refine TOps.callV env (by rfl) (by rfl) (by rfl) (dq) ?_)
    | refine GZp_i_2i_y ?_ ?_ ?_ ?_ ?_ ?_ ?_ ?_
    | with_reducible first | exact BzZq.mk | refine Tw.ret ?_ | refine ImZq.i fun h => ?_ | refine IkZq.i fun hk => ?_)
  refine TOps.frz env 2 (by rfl) (by rfl) (by rfl) ?_ ?_ ?_
  · repeat' (first
      | with_reducible first | exact Conj.nil | refine Conj.cons rfl ?_ | refine Conj.same ?_ | refine Conj.ask ?_ ?_
      | ((with_reducible refine Due.mk ?_); (first | with_reducible rfl | omega | assumption | decide | ((try simp only [goS] at *) <;> (try intro h) <;> (try intro h') <;> (try simp only [goS] at *) <;> (try simp only [rdi, rd2i, rdy, lq, Int.toNat_natCast, Nat.add_zero] at *) <;> (try simp only [rng]) <;> (first | assumption | omega)) | (exact due_app0 (by omega)) | (exact due_app (by omega)) | (intros; simp; done) | (intros; simp; omega)))
      | with_reducible refine Due.mk ?_
      | omega)
  · repeat' (first
      | with_reducible first | exact Conj.nil | refine Conj.cons rfl ?_ | refine Conj.same ?_ | refine Conj.ask ?_ ?_
      | ((with_reducible refine Due.mk ?_); (first | with_reducible rfl | omega | assumption | decide | ((try simp only [goS] at *) <;> (try intro h) <;> (try intro h') <;> (try simp only [goS] at *) <;> (try simp only [rdi, rd2i, rdy, lq, Int.toNat_natCast, Nat.add_zero] at *) <;> (try simp only [rng]) <;> (first | assumption | omega)) | (exact due_app0 (by omega)) | (exact due_app (by omega)) | (intros; simp; done) | (intros; simp; omega)))
      | with_reducible refine Due.mk ?_
      | omega)
  rw [eq0]
  repeat' (first
    | ((with_reducible refine TOps.any ?_); refine TOps.callV env (by rfl) (by rfl) (by rfl) (lc) ?_)
    | refine GZp_i_2i_y ?_ ?_ ?_ ?_ ?_ ?_ ?_ ?_
    | with_reducible first | exact BzZq.mk | refine Tw.ret ?_ | refine ImZq.i fun h => ?_ | refine IkZq.i fun hk => ?_)
  exact ⟨rfl, rfl, rfl⟩
end Go.Proofs.Ytogbkhopanaoiaa
