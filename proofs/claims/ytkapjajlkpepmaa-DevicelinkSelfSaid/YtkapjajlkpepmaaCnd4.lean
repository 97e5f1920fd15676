/- Links are applied. -/
import Derived.Test.YtkapjajlkpepmaaDlk1
import Derived.Test.YtkapjajlkpepmaaGrid3
import Derived.Test.YtkapjajlkpepmaaTones
import Derived.Test.YtkapjajlkpepmaaGo
namespace Go.Proofs.Ytkapjajlkpepmaa
open Go Go.Lite
set_option linter.unusedVariables false
set_option linter.unusedSimpArgs false
set_option maxRecDepth 100000
set_option maxHeartbeats 4000000
-- @simp rdi rd2i

def dlV (vals : List Int) (out s : Nat) (xs : List Nat) (o : Nat) : Int := graw vals out s (gstep s) o (xs.map (256 * ·))
def dlQ (vals : List Int) (out s : Nat) (xs : List Nat) : List Int := tab out fun o => near (dlV vals out s xs o) (256 * gstep s : Nat)
def inFull (vals : List Int) : Prop := ∀ v ∈ vals, 0 ≤ v ∧ v ≤ 65280
theorem dlV_bd {vals : List Int} {out s : Nat} {xs : List Nat} (h : inFull vals) (o : Nat) : 0 ≤ dlV vals out s xs o ∧ dlV vals out s xs o ≤ 65280 * (gstep s : Int) := by
  unfold dlV graw
  refine sumN_bd fun t _ => ?_
  unfold gnode
  rcases Nat.lt_or_ge (ndx s 0 (List.map (fun x => (x + t) / gstep s) (List.map (256 * ·) xs)) * out + o) vals.length with h1 | h1
  · exact h _ (getD_mem h1)
  · rw [List.getD_eq_getElem?_getD, List.getElem?_eq_none h1]
    show 0 ≤ (0 : Int) ∧ (0 : Int) ≤ 65280
    omega
theorem dlQuick_r (inn out s : Nat) (vals : List Int) (xs : List Nat) (g : GOk inn out s vals) (hv : inFull vals) (hx : xs.length = inn ∧ ∀ i, i < inn → xs.getD i 0 ≤ 255) :
    TC R Try.prog devicelink_Quick_f [.pel [.int .i64 inn, .int .i64 out, .int .i64 s, .lst Ei vals], .lst Ei (nz xs)] []
    (fun v X => v = .sla 1 0 0 out ∧ X = [some (.arr Ei (dlQ vals out s xs))]) := by
  obtain ⟨hxl, hxb⟩ := hx
  have gs := g.step
  have gi := g.i1
  have gO := g.o1
  have gsz := g.s1
  have lz : (nz xs).length = inn := by rw [nz_len]; exact hxl
  obtain ⟨ys, hys⟩ : ∃ ys, ys = xs.map (256 * ·) := ⟨_, rfl⟩
  have hyl : ys.length = inn := by rw [hys]; simpa using hxl
  have hyg : ∀ i, i < inn → ys.getD i 0 = 256 * xs.getD i 0 := fun i hi => by
    rw [hys, List.getD_eq_getElem?_getD, List.getD_eq_getElem?_getD, List.getElem?_map, List.getElem?_eq_getElem (by omega)]; rfl
  have rr := raw_r inn out s vals ys g ⟨hyl, fun i hi => by rw [hyg i hi]; have := hxb i hi; omega⟩
  have en : nz ys = tab inn fun i => 256 * ((xs.getD i 0 : Nat) : Int) := is_tab 0 (by rw [nz_len]; exact hyl) fun i hi => by rw [nz_get, hyg i hi]; omega
  have eg : ∀ i, (nz xs).getD i 0 = ((xs.getD i 0 : Nat) : Int) := fun i => nz_get
  have q1 : quo 65280 ((s : Int) - 1) = (gstep s : Int) := by
    rw [quo_nn (by omega)]
    unfold gstep
    rw [show (s : Int) - 1 = ((s - 1 : Nat) : Int) by omega]
    exact (Int.natCast_ediv _ _).symm
  obtain ⟨V, hV⟩ : ∃ V : Nat → Int, V = dlV vals out s xs := ⟨_, rfl⟩
  have Vb : ∀ o, 0 ≤ V o ∧ V o ≤ 65280 * (gstep s : Int) := fun o => by rw [hV]; exact dlV_bd hv o
  have eV : (tab out fun o => graw vals out s (gstep s) o ys) = tab out V := by rw [hV, hys]; rfl
  rw [eV, en] at rr
  obtain ⟨d, hd⟩ : ∃ d : Nat, d = 256 * gstep s := ⟨_, rfl⟩
  have raw : TC R Try.prog devicelink_Quick_f [.pel [.int .i64 inn, .int .i64 out, .int .i64 s, .lst Ei vals], .lst Ei (nz xs)] []
      (fun v X => v = .sla 1 1 0 out ∧ ∃ a, X = [a, some (.arr Ei (dlQ vals out s xs))]) := by
    refine tc env devicelink_Quick_s (by rfl) ?_
    dsimp only [devicelink_Quick_c]
    repeat' (first
      | refine GZy_i_2i lz ?_ ?_ ?_ ?_ ?_ ?_ ?_ ?_
      | with_reducible first | exact BzZq.mk | refine Tw.ret ?_ | refine ImZq.i fun h => ?_ | refine IkZq.i fun hk => ?_)
    rw [lz, Int.toNat_natCast]
    refine Tw.loopK [0, 14, 15] (fun i : Nat => i ≤ inn) (fun i => inn - i) (fun i => [(16, .int .i64 i), (5, .sla 1 0 0 inn)]) (fun i => [some (.arr Ei (ptab inn i fun i => 256 * ((xs.getD i 0 : Nat) : Int)))]) ⟨0, by omega, ?_⟩ (fun i hi => ?_)
    · rw [ptab_zero]
      refine TWk.fcanon env [some 0] (by rfl) ?_
      repeat' (first
        | exact lz
        | exact lz.symm
        | with_reducible first | exact Conj.nil | refine Conj.cons rfl ?_ | refine Conj.same ?_ | refine Conj.ask ?_ ?_
        | ((with_reducible refine Due.mk ?_); (first | with_reducible rfl | omega | assumption | decide | ((try simp only [goS] at *) <;> (try intro h) <;> (try intro h') <;> (try simp only [goS] at *) <;> (try simp only [rdi, rd2i, Int.toNat_natCast, Nat.add_zero] at *) <;> (try simp only [rng]) <;> (first | assumption | omega)) | (exact due_app0 (by omega)) | (exact due_app (by omega)) | (intros; simp; done) | (intros; simp; omega)))
        | with_reducible refine Due.mk ?_
        | omega)
    have pl : (ptab inn i fun i => 256 * ((xs.getD i 0 : Nat) : Int)).length = inn := ptab_len
    rcases Nat.lt_or_ge i inn with hi2 | hi2
    · have xb := hxb i hi2
      have e1 : (nz xs).getD i 0 = ((xs.getD i 0 : Nat) : Int) := eg i
      have ps : (ptab inn i fun i => 256 * ((xs.getD i 0 : Nat) : Int)).set i (256 * (nz xs).getD i 0) = ptab inn (i + 1) fun i => 256 * ((xs.getD i 0 : Nat) : Int) := by rw [e1]; exact ptab_set (f := fun i => 256 * ((xs.getD i 0 : Nat) : Int))
      repeat' (first
        | refine GZy_i_2i (And.intro pl (And.intro lz e1)) ?_ ?_ ?_ ?_ ?_ ?_ ?_ ?_
        | with_reducible first | exact BzZq.mk | refine Tw.ret ?_ | refine ImZq.i fun h => ?_ | refine IkZq.i fun hk => ?_)
      refine ⟨i + 1, by omega, by omega, TWk.fcanon env [some 0] (by rfl) ?_⟩
      repeat' (first
        | exact ps.symm
        | with_reducible first | exact Conj.nil | refine Conj.cons rfl ?_ | refine Conj.same ?_ | refine Conj.ask ?_ ?_
        | ((with_reducible refine Due.mk ?_); (first | with_reducible rfl | omega | assumption | decide | ((try simp only [goS] at *) <;> (try intro h) <;> (try intro h') <;> (try simp only [goS] at *) <;> (try simp only [rdi, rd2i, Int.toNat_natCast, Nat.add_zero] at *) <;> (try simp only [rng]) <;> (first | assumption | omega)) | (exact due_app0 (by omega)) | (exact due_app (by omega)) | (intros; simp; done) | (intros; simp; omega)))
        | with_reducible refine Due.mk ?_
        | omega)
    obtain rfl : i = inn := by omega
    rw [ptab_all]
    have pl2 : 0 + i ≤ (tab i fun i => 256 * ((xs.getD i 0 : Nat) : Int)).length := by rw [tab_len]; omega
    repeat' (first
      | refine GZp_i_2i ?_ ?_ ?_ ?_ ?_ ?_ ?_ ?_
      | with_reducible first | exact BzZq.mk | refine Tw.ret ?_ | refine ImZq.i fun h => ?_ | refine IkZq.i fun hk => ?_)
    refine TOps.frz env 0 (by rfl) (by rfl) (by rfl) ?_ ?_ ?_
    · repeat' (first
        | exact pl2
        | with_reducible first | exact Conj.nil | refine Conj.cons rfl ?_ | refine Conj.same ?_ | refine Conj.ask ?_ ?_
        | ((with_reducible refine Due.mk ?_); (first | with_reducible rfl | omega | assumption | decide | ((try simp only [goS] at *) <;> (try intro h) <;> (try intro h') <;> (try simp only [goS] at *) <;> (try simp only [rdi, rd2i, Int.toNat_natCast, Nat.add_zero] at *) <;> (try simp only [rng]) <;> (first | assumption | omega)) | (exact due_app0 (by omega)) | (exact due_app (by omega)) | (intros; simp; done) | (intros; simp; omega)))
        | with_reducible refine Due.mk ?_
        | omega)
    · repeat' (first
        | exact pl2
        | with_reducible first | exact Conj.nil | refine Conj.cons rfl ?_ | refine Conj.same ?_ | refine Conj.ask ?_ ?_
        | ((with_reducible refine Due.mk ?_); (first | with_reducible rfl | omega | assumption | decide | ((try simp only [goS] at *) <;> (try intro h) <;> (try intro h') <;> (try simp only [goS] at *) <;> (try simp only [rdi, rd2i, Int.toNat_natCast, Nat.add_zero] at *) <;> (try simp only [rng]) <;> (first | assumption | omega)) | (exact due_app0 (by omega)) | (exact due_app (by omega)) | (intros; simp; done) | (intros; simp; omega)))
        | with_reducible refine Due.mk ?_
        | omega)
    rw [cut_tab]
    repeat' (first
      | ((with_reducible refine TOps.any ?_); refine TOps.callV env (by rfl) (by rfl) (by rfl) (rr) ?_)
      | refine GZp_i_2i ?_ ?_ ?_ ?_ ?_ ?_ ?_ ?_
      | with_reducible first | exact BzZq.mk | refine Tw.ret ?_ | refine ImZq.i fun h => ?_ | refine IkZq.i fun hk => ?_)
    have tl : (tab out V).length = out := tab_len
    refine Tw.loopK [0, 8, 30, 31] (fun o : Nat => o ≤ out) (fun o => out - o) (fun o => [(32, .int .i64 o)]) (fun o => [none, some (.arr Ei (tab out fun j => if j < o then near (V j) d else V j))]) ⟨0, by omega, TWk.fcanon env [some 0, some 1] (by rfl) ?_⟩ (fun o ho => ?_)
    · repeat' (first
        | with_reducible first | exact Conj.nil | refine Conj.cons rfl ?_ | refine Conj.same ?_ | refine Conj.ask ?_ ?_
        | ((with_reducible refine Due.mk ?_); (first | with_reducible rfl | omega | assumption | decide | ((try simp only [goS] at *) <;> (try intro h) <;> (try intro h') <;> (try simp only [goS] at *) <;> (try simp only [rdi, rd2i, Int.toNat_natCast, Nat.add_zero] at *) <;> (try simp only [rng]) <;> (first | assumption | omega)) | (exact due_app0 (by omega)) | (exact due_app (by omega)) | (intros; simp; done) | (intros; simp; omega)))
        | with_reducible refine Due.mk ?_
        | omega)
      all_goals exact tab_congr fun j _ => by rw [if_neg (by omega)]
    have dl : (tab out fun j => if j < o then near (V j) d else V j).length = out := tab_len
    rcases Nat.lt_or_ge o out with ho2 | ho2
    · have vb := Vb o
      have eo : (tab out fun j => if j < o then near (V j) d else V j).getD o 0 = V o := by rw [tab_get ho2, if_neg (by omega)]
      have nn := nearest_c (V o) (256 * (gstep s : Int)) (by unfold Due; omega)
      have nx : (tab out fun j => if j < o then near (V j) d else V j).set o (near (V o) (256 * (gstep s : Int))) = tab out fun j => if j < o + 1 then near (V j) d else V j := by
        rw [tab_set]
        refine tab_congr fun j hj => ?_
        by_cases e : j = o
        · subst e
          rw [if_pos rfl, if_pos (by omega), hd]
          simp
        · rw [if_neg e]
          by_cases h2 : j < o
          · rw [if_pos h2, if_pos (by omega)]
          · rw [if_neg h2, if_neg (by omega)]
      generalize (tab out fun j => if j < o then near (V j) d else V j) = D at *
      repeat' (first
        | refine GZy_i_2i (And.intro q1 (And.intro dl eo)) ?_ ?_ ?_ ?_ ?_ ?_ ?_ ?_
        | with_reducible first | exact BzZq.mk | refine Tw.ret ?_ | refine ImZq.i fun h => ?_ | refine IkZq.i fun hk => ?_)
      rw [q1, show D.getD ((o : Int).toNat + 0) (R.d Ei) = V o from eo]
      repeat' (first
        | ((with_reducible refine TDr.any ?_); refine TDr.callE env (by first | rfl | assumption) (by rfl) (by rfl) ?_ (nn) (by rfl) (by rfl) ?_)
        | ((with_reducible refine TOps.any ?_); refine TOps.callV env (by rfl) (by rfl) (by rfl) (nn) ?_)
        | refine GZy_i_2i dl ?_ ?_ ?_ ?_ ?_ ?_ ?_ ?_
        | with_reducible first | exact BzZq.mk | refine Tw.ret ?_ | refine ImZq.i fun h => ?_ | refine IkZq.i fun hk => ?_)
      refine ⟨o + 1, by omega, by omega, TWk.fcanon env [some 0, some 1] (by rfl) ?_⟩
      repeat' (first
        | exact nx.symm
        | with_reducible first | exact Conj.nil | refine Conj.cons rfl ?_ | refine Conj.same ?_ | refine Conj.ask ?_ ?_
        | ((with_reducible refine Due.mk ?_); (first | with_reducible rfl | omega | assumption | decide | ((try simp only [goS] at *) <;> (try intro h) <;> (try intro h') <;> (try simp only [goS] at *) <;> (try simp only [rdi, rd2i, Int.toNat_natCast, Nat.add_zero] at *) <;> (try simp only [rng]) <;> (first | assumption | omega)) | (exact due_app0 (by omega)) | (exact due_app (by omega)) | (intros; simp; done) | (intros; simp; omega)))
        | with_reducible refine Due.mk ?_
        | omega)
    obtain rfl : o = out := by omega
    repeat' (first
      | refine GZp_i_2i ?_ ?_ ?_ ?_ ?_ ?_ ?_ ?_
      | with_reducible first | exact BzZq.mk | refine Tw.ret ?_ | refine ImZq.i fun h => ?_ | refine IkZq.i fun hk => ?_)
    refine ⟨rfl, none, ?_⟩
    have : (tab o fun j => if j < o then near (V j) d else V j) = dlQ vals o s xs := by
      unfold dlQ
      refine tab_congr fun j hj => ?_
      rw [if_pos hj, hV, hd]
    rw [this]
  refine raw.wk fun v X h => ?_
  obtain ⟨rfl, a, rfl⟩ := h
  exact ⟨_, _, TWk.fcanon env [some 1] (by rfl) (by repeat' (first | exact trivial | refine ⟨rfl, ?_⟩)), rfl, rfl⟩
end Go.Proofs.Ytkapjajlkpepmaa
