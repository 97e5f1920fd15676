/- Merged: Inv6d Inv7A. -/
import Derived.Test.YtkapjajlkpepmaaInv6c
import Derived.Test.YtkapjajlkpepmaaGo
namespace Go.Proofs.Ytkapjajlkpepmaa
open Go Go.Lite
set_option linter.unusedVariables false
set_option linter.unusedSimpArgs false
set_option maxRecDepth 100000
set_option maxHeartbeats 4000000
-- @macs Inv4
-- @macs Inv5
-- @simp rdi rd2i rdL2iJ

theorem leaf_keepB (x : SBox) (hx : SOk x) (lo hi lo' hi' : List Int) (fr to zb : List Nat) (far0 N : Int) (r : Bool) (hf : fr.length = x.n) (ht : to.length = x.n) (hF : ∀ k, k < x.n → x.F k ≤ fr.getD k 0 ∧ fr.getD k 0 ≤ to.getD k 0 ∧ to.getD k 0 ≤ x.T k) (tcb : BoundS x lo hi fr to zb far0 N lo' hi') (tcr : BeforeS x lo' hi' fr to zb far0 r) (hs : ¬ x.q.tot < ((szN (fun k => fr.getD k 0 * x.st) x.n : Nat) : Int)) (hW : (wd fr to x.n).1 = 0) (hA : (wd fr to x.n).2 = 0) (ys : List Nat) (hys : ys = mulL x.st fr) (hc : N = far0) (hr2 : r = true) (hset : far0 < sdst x ys) :
    TC R Try.prog __inverse_search__run_f [.ptr 4 0] (rowsS x lo hi fr to (some zb) far0) (fun v X => v = .tup [] ∧ X = rowsT x lo' hi' fr to zb none far0) := by
  have gi := hx.ok.g.i1
  have hb : ∀ k, k < x.n → fr.getD k 0 * x.st ≤ 255 ∧ to.getD k 0 * x.st ≤ 255 ∧ fr.getD k 0 ≤ 255 ∧ to.getD k 0 ≤ 255 ∧ fr.getD k 0 ≤ to.getD k 0 := fun k hk => by
    have h1 := hx.top k hk
    have h2 := hF k hk
    have h3 : fr.getD k 0 * x.st ≤ x.T k * x.st := Nat.mul_le_mul_right _ (by omega)
    have h4 : to.getD k 0 * x.st ≤ x.T k * x.st := Nat.mul_le_mul_right _ (by omega)
    have h5 : to.getD k 0 * 1 ≤ to.getD k 0 * x.st := Nat.mul_le_mul_left _ hx.pos
    omega
  have sb : ∀ i, i ≤ x.n → szN (fun k => fr.getD k 0 * x.st) i ≤ 255 * i := fun i => by
    induction i with
    | zero => intro _; exact Nat.le_refl _
    | succ i ihi => intro hi; have := ihi (by omega); have := hb i (by omega); simp only [szN]; omega
  have lf : (nz fr).length = x.n := by rw [nz_len]; exact hf
  have lt : (nz to).length = x.n := by rw [nz_len]; exact ht
  have tot := hx.tot
  have yl : ys.length = x.n := by rw [hys, mulL_len, hf]
  have yg : ∀ k, ys.getD k 0 = fr.getD k 0 * x.st := fun k => by rw [hys, mulL_get]
  have yb : ys.length = x.n ∧ ∀ k, k < x.n → ys.getD k 0 ≤ 255 := ⟨yl, fun k hk => by rw [yg]; exact (hb k hk).1⟩
  have qc := pquick_c x.p x.n x.s ys hx.ok yb
  have fc := far_c _ _ _ _ _ _ (pcol_ok hx.ok yb) hx.lab
  rw [show far (pcol x.p x.n x.s ys 0) (pcol x.p x.n x.s ys 1) (pcol x.p x.n x.s ys 2) x.q.tl x.q.ta x.q.tb = sdst x ys from rfl] at fc
  have db := sdst_bd hx yb
  have lY : (nz ys).length = x.n := by rw [nz_len]; exact yl
  have eY : tab x.n (fun k => (nz fr).getD k 0 * x.q.st) = nz ys := (is_tab 0 lY fun k _ => by rw [nz_get, nz_get, yg, hx.st, Int.natCast_mul]).symm
  rw [← show cut (nz ys) 0 x.n = nz ys from cut_all lY.symm] at qc
  have gn := hx.ok.g.i1
  obtain ⟨kk, hk⟩ : ∃ kk, x.n = kk + 1 := ⟨x.n - 1, by omega⟩
  unfold BoundS at tcb
  unfold BeforeS at tcr
  dsimp only [srow, encP, encA] at tcb tcr
  refine tc env __inverse_search__run_s (by rfl) ?_
  dsimp only [__inverse_search__run_c, rowsS, rowsT, srow, encP, encA]
  repeat' (first
    | refine GZp_i_2i_L2iJ ?_ ?_ ?_ ?_ ?_ ?_ ?_ ?_
    | with_reducible first | exact BzZq.mk | refine Tw.ret ?_ | refine ImZq.i fun h => ?_ | refine IkZq.i fun hk => ?_)
  refine Tw.loopK [0, 18] (fun i : Nat => i ≤ x.n) (fun i => x.n - i) (fun i => [(19, .int .i64 i), (2, .int .i64 (szN (fun k => fr.getD k 0 * x.st) i : Nat)), (3, .int .i64 ((wd fr to i).1 : Nat)), (4, .int .i64 ((wd fr to i).2 : Nat))])
    (fun _ => [some (.arr Ei lo), some (.arr Ei hi), some (.arr Ei (nz fr)), some (.arr Ei (nz to)), some (srow x.p x.q x.n (.sla 1 5 0 x.n) far0), some (.arr Ei (nz zb))]) ⟨0, by omega, TWk.fcanon env [some 0, some 1, some 2, some 3, some 4, some 5] (by rfl) ?_⟩ (fun i hii => ?_)
  · repeat' (first
      | with_reducible first | exact Conj.nil | refine Conj.cons rfl ?_ | refine Conj.same ?_ | refine Conj.ask ?_ ?_
      | ((with_reducible refine Due.mk ?_); (first | with_reducible rfl | omega | assumption | decide | ((try simp only [goS] at *) <;> (try intro h) <;> (try intro h') <;> (try simp only [goS] at *) <;> (try simp only [rdi, rd2i, rdL2iJ, Int.toNat_natCast, Nat.add_zero] at *) <;> (try simp only [rng]) <;> (first | assumption | omega)) | (exact due_app0 (by omega)) | (exact due_app (by omega)) | (intros; simp; done) | (intros; simp; omega)))
      | with_reducible refine Due.mk ?_
      | omega)
  rcases Nat.lt_or_ge i x.n with hiq | hiq
  · have b1 := hb i hiq
    have b2 := sb (i + 1) (by omega)
    have b3 := sb i (by omega)
    have n1 : (nz fr).getD i 0 * x.q.st = ((fr.getD i 0 * x.st : Nat) : Int) := by rw [nz_get, hx.st, Int.natCast_mul]
    have n2 : (nz fr).getD i 0 = ((fr.getD i 0 : Nat) : Int) := nz_get
    have n3 : (nz to).getD i 0 = ((to.getD i 0 : Nat) : Int) := nz_get
    have d1 : -9223372036854775808 ≤ (nz fr).getD i 0 * x.q.st ∧ (nz fr).getD i 0 * x.q.st ≤ 9223372036854775807 := by rw [n1]; omega
    have e1 : szN (fun k => fr.getD k 0 * x.st) (i + 1) = szN (fun k => fr.getD k 0 * x.st) i + fr.getD i 0 * x.st := rfl
    have d2 : -9223372036854775808 ≤ ((szN (fun k => fr.getD k 0 * x.st) i : Nat) : Int) + (nz fr).getD i 0 * x.q.st ∧ ((szN (fun k => fr.getD k 0 * x.st) i : Nat) : Int) + (nz fr).getD i 0 * x.q.st ≤ 9223372036854775807 := by rw [n1]; omega
    have d3 : -9223372036854775808 ≤ (nz to).getD i 0 - (nz fr).getD i 0 ∧ (nz to).getD i 0 - (nz fr).getD i 0 ≤ 9223372036854775807 := by rw [n2, n3]; omega
    have e2 : ((szN (fun k => fr.getD k 0 * x.st) (i + 1) : Nat) : Int) = ((szN (fun k => fr.getD k 0 * x.st) i : Nat) : Int) + (nz fr).getD i 0 * x.q.st := by rw [n1, e1]; omega
    by_cases hw : (wd fr to i).1 < to.getD i 0 - fr.getD i 0
    · have w1 : wd fr to (i + 1) = (to.getD i 0 - fr.getD i 0, i) := by simp only [wd]; rw [if_pos hw]
      have w2 : (((wd fr to (i + 1)).1 : Nat) : Int) = (nz to).getD i 0 - (nz fr).getD i 0 := by rw [w1, n2, n3]; dsimp only; omega
      have w3 : (((wd fr to (i + 1)).2 : Nat) : Int) = (i : Int) := by rw [w1]
      have hw2 : (((wd fr to i).1 : Nat) : Int) < (nz to).getD i 0 - (nz fr).getD i 0 := by rw [n2, n3]; omega
      repeat' (first
        | exact d1
        | exact d2
        | exact d3
        | refine GZy_i_2i_L2iJ (And.intro lf lt) ?_ ?_ ?_ ?_ ?_ ?_ ?_ ?_
        | with_reducible first | exact BzZq.mk | refine Tw.ret ?_ | refine ImZq.i fun h => ?_ | refine IkZq.i fun hk => ?_)
      refine ⟨i + 1, by omega, by omega, TWk.fcanon env [some 0, some 1, some 2, some 3, some 4, some 5] (by rfl) ?_⟩
      repeat' (first
        | exact e2
        | exact w2
        | exact w3
        | with_reducible first | exact Conj.nil | refine Conj.cons rfl ?_ | refine Conj.same ?_ | refine Conj.ask ?_ ?_
        | ((with_reducible refine Due.mk ?_); (first | with_reducible rfl | omega | assumption | decide | ((try simp only [goS] at *) <;> (try intro h) <;> (try intro h') <;> (try simp only [goS] at *) <;> (try simp only [rdi, rd2i, rdL2iJ, Int.toNat_natCast, Nat.add_zero] at *) <;> (try simp only [rng]) <;> (first | assumption | omega)) | (exact due_app0 (by omega)) | (exact due_app (by omega)) | (intros; simp; done) | (intros; simp; omega)))
        | with_reducible refine Due.mk ?_
        | omega)
    · have w1 : wd fr to (i + 1) = wd fr to i := by simp only [wd]; rw [if_neg hw]
      have w2 : (((wd fr to (i + 1)).1 : Nat) : Int) = (((wd fr to i).1 : Nat) : Int) := by rw [w1]
      have w3 : (((wd fr to (i + 1)).2 : Nat) : Int) = (((wd fr to i).2 : Nat) : Int) := by rw [w1]
      have hw2 : ¬ (((wd fr to i).1 : Nat) : Int) < (nz to).getD i 0 - (nz fr).getD i 0 := by rw [n2, n3]; omega
      repeat' (first
        | exact d1
        | exact d2
        | exact d3
        | refine GZy_i_2i_L2iJ (And.intro lf lt) ?_ ?_ ?_ ?_ ?_ ?_ ?_ ?_
        | with_reducible first | exact BzZq.mk | refine Tw.ret ?_ | refine ImZq.i fun h => ?_ | refine IkZq.i fun hk => ?_)
      refine ⟨i + 1, by omega, by omega, TWk.fcanon env [some 0, some 1, some 2, some 3, some 4, some 5] (by rfl) ?_⟩
      repeat' (first
        | exact e2
        | exact w2
        | exact w3
        | with_reducible first | exact Conj.nil | refine Conj.cons rfl ?_ | refine Conj.same ?_ | refine Conj.ask ?_ ?_
        | ((with_reducible refine Due.mk ?_); (first | with_reducible rfl | omega | assumption | decide | ((try simp only [goS] at *) <;> (try intro h) <;> (try intro h') <;> (try simp only [goS] at *) <;> (try simp only [rdi, rd2i, rdL2iJ, Int.toNat_natCast, Nat.add_zero] at *) <;> (try simp only [rng]) <;> (first | assumption | omega)) | (exact due_app0 (by omega)) | (exact due_app (by omega)) | (intros; simp; done) | (intros; simp; omega)))
        | with_reducible refine Due.mk ?_
        | omega)
  obtain rfl : i = x.n := by omega
  rw [hW, hA]
  repeat' (first
    | refine GZp_i_2i_L2iJ ?_ ?_ ?_ ?_ ?_ ?_ ?_ ?_
    | with_reducible first | exact BzZq.mk | refine Tw.ret ?_ | refine ImZq.i fun h => ?_ | refine IkZq.i fun hk => ?_)
  rw [hk]
  repeat' (first
    | refine GZp_i_2i_L2iJ ?_ ?_ ?_ ?_ ?_ ?_ ?_ ?_
    | with_reducible first | exact BzZq.mk | refine Tw.ret ?_ | refine ImZq.i fun h => ?_ | refine IkZq.i fun hk => ?_)
  rw [← hk]
  subst hr2
  ((with_reducible refine TOps.any ?_); refine TOps.callHE env [0, 1, 2, 3, 4, 5] (tcb) (by rfl) (by rfl) (by rfl) (by rfl) (by rfl) (by rfl) (by repeat' (first | exact trivial | refine ⟨rfl, ?_⟩)) ?_)
  repeat' (first
    | refine GZp_i_2i_L2iJ ?_ ?_ ?_ ?_ ?_ ?_ ?_ ?_
    | with_reducible first | exact BzZq.mk | refine Tw.ret ?_ | refine ImZq.i fun h => ?_ | refine IkZq.i fun hk => ?_)
  ((with_reducible refine TOps.any ?_); refine TOps.callHE env [0, 1, 2, 3, 4, 5] (tcr) (by rfl) (by rfl) (by rfl) (by rfl) (by rfl) (by rfl) (by repeat' (first | exact trivial | refine ⟨rfl, ?_⟩)) ?_)
  repeat' (first
    | refine GZp_i_2i_L2iJ ?_ ?_ ?_ ?_ ?_ ?_ ?_ ?_
    | with_reducible first | exact BzZq.mk | refine Tw.ret ?_ | refine ImZq.i fun h => ?_ | refine IkZq.i fun hk => ?_)
  rw [Int.toNat_natCast]
  refine Tw.loopK [0, 8, 106, 107] (fun i : Nat => i ≤ x.n) (fun i => x.n - i) (fun i => [(108, .int .i64 i)])
    (fun i => [some (.arr Ei lo'), some (.arr Ei hi'), some (.arr Ei (nz fr)), some (.arr Ei (nz to)), some (srow x.p x.q x.n (.sla 1 5 0 x.n) far0), some (.arr Ei (nz zb)), some (.arr Ei (ptab x.n i fun k => (nz fr).getD k 0 * x.q.st))]) ⟨0, by omega, TWk.fcanon env [some 0, some 1, some 2, some 3, some 4, some 5, some 6] (by rfl) ?_⟩ (fun i hii2 => ?_)
  · repeat' (first
      | exact ptab_zero
      | with_reducible first | exact Conj.nil | refine Conj.cons rfl ?_ | refine Conj.same ?_ | refine Conj.ask ?_ ?_
      | ((with_reducible refine Due.mk ?_); (first | with_reducible rfl | omega | assumption | decide | ((try simp only [goS] at *) <;> (try intro h) <;> (try intro h') <;> (try simp only [goS] at *) <;> (try simp only [rdi, rd2i, rdL2iJ, Int.toNat_natCast, Nat.add_zero] at *) <;> (try simp only [rng]) <;> (first | assumption | omega)) | (exact due_app0 (by omega)) | (exact due_app (by omega)) | (intros; simp; done) | (intros; simp; omega)))
      | with_reducible refine Due.mk ?_
      | omega)
  have pl : (ptab x.n i fun k => (nz fr).getD k 0 * x.q.st).length = x.n := ptab_len
  rcases Nat.lt_or_ge i x.n with hi3 | hi3
  · have b1 := hb i hi3
    have n1 : (nz fr).getD i 0 * x.q.st = ((fr.getD i 0 * x.st : Nat) : Int) := by rw [nz_get, hx.st, Int.natCast_mul]
    have d1 : -9223372036854775808 ≤ (nz fr).getD i 0 * x.q.st ∧ (nz fr).getD i 0 * x.q.st ≤ 9223372036854775807 := by rw [n1]; omega
    have ps : ptab x.n (i + 1) (fun k => (nz fr).getD k 0 * x.q.st) = (ptab x.n i fun k => (nz fr).getD k 0 * x.q.st).set i ((nz fr).getD i 0 * x.q.st) := (ptab_set (f := fun k => (nz fr).getD k 0 * x.q.st)).symm
    repeat' (first
      | exact d1
      | refine GZy_i_2i_L2iJ (And.intro lf (And.intro lt pl)) ?_ ?_ ?_ ?_ ?_ ?_ ?_ ?_
      | with_reducible first | exact BzZq.mk | refine Tw.ret ?_ | refine ImZq.i fun h => ?_ | refine IkZq.i fun hk => ?_)
    refine ⟨i + 1, by omega, by omega, TWk.fcanon env [some 0, some 1, some 2, some 3, some 4, some 5, some 6] (by rfl) ?_⟩
    repeat' (first
      | exact ps
      | with_reducible first | exact Conj.nil | refine Conj.cons rfl ?_ | refine Conj.same ?_ | refine Conj.ask ?_ ?_
      | ((with_reducible refine Due.mk ?_); (first | with_reducible rfl | omega | assumption | decide | ((try simp only [goS] at *) <;> (try intro h) <;> (try intro h') <;> (try simp only [goS] at *) <;> (try simp only [rdi, rd2i, rdL2iJ, Int.toNat_natCast, Nat.add_zero] at *) <;> (try simp only [rng]) <;> (first | assumption | omega)) | (exact due_app0 (by omega)) | (exact due_app (by omega)) | (intros; simp; done) | (intros; simp; omega)))
      | with_reducible refine Due.mk ?_
      | omega)
  have ei : i = x.n := by omega
  rw [ei, ptab_all, eY]
  repeat' (first
    | ((with_reducible refine TDr.any ?_); refine TDr.callE env (by first | rfl | assumption) (by rfl) (by rfl) ?_ (qc) (by rfl) (by rfl) ?_)
    | ((with_reducible refine TDr.any ?_); refine TDr.callE env (by first | rfl | assumption) (by rfl) (by rfl) ?_ (fc) (by rfl) (by rfl) ?_)
    | refine GZp_i_2i_L2iJ ?_ ?_ ?_ ?_ ?_ ?_ ?_ ?_
    | with_reducible first | exact BzZq.mk | refine Tw.ret ?_ | refine ImZq.i fun h => ?_ | refine IkZq.i fun hk => ?_)
  rw [hk]
  repeat' (first
    | ((with_reducible refine Tw.retI ?_); refine Tw.gc env [0, 1, 2, 3, 4, 5] [] (by rfl) (by rfl) ?_ (Tw.ret ?_))
    | refine GZp_i_2i_L2iJ ?_ ?_ ?_ ?_ ?_ ?_ ?_ ?_
    | with_reducible first | exact BzZq.mk | refine Tw.ret ?_ | refine ImZq.i fun h => ?_ | refine IkZq.i fun hk => ?_)
  all_goals
    rw [← hk]
    exact ⟨rfl, rfl⟩
end Go.Proofs.Ytkapjajlkpepmaa
namespace Go.Proofs.Ytkapjajlkpepmaa
open Go Go.Lite
set_option linter.unusedVariables false
set_option linter.unusedSimpArgs false
set_option maxRecDepth 100000
set_option maxHeartbeats 4000000
-- @macs Inv4
-- @macs Inv5
-- @simp rdi rd2i rdL2iJ

theorem two_keptA (x : SBox) (hx : SOk x) (lo hi lo' hi' : List Int) (fr to zb : List Nat) (far0 N : Int) (r : Bool) (hf : fr.length = x.n) (ht : to.length = x.n) (hF : ∀ k, k < x.n → x.F k ≤ fr.getD k 0 ∧ fr.getD k 0 ≤ to.getD k 0 ∧ to.getD k 0 ≤ x.T k) (tcb : BoundS x lo hi fr to zb far0 N lo' hi') (tcr : BeforeS x lo' hi' fr to zb far0 r) (hs : ¬ x.q.tot < ((szN (fun k => fr.getD k 0 * x.st) x.n : Nat) : Int)) (a m : Nat) (ha : a < x.n) (hW : (wd fr to x.n).1 ≠ 0) (hA : (wd fr to x.n).2 = a) (hm : m = (fr.getD a 0 + to.getD a 0) / 2) (hma : fr.getD a 0 < to.getD a 0) (hc : N < far0) (lo1 hi1 lo2 hi2 : List Int) (far1 far2 : Int) (nb : Option (List Nat))
    (tc1 : TC R Try.prog __inverse_search__run_f [.ptr 4 0] (rowsS x lo' hi' fr (to.set a m) (some zb) far0) (fun v X => v = .tup [] ∧ X = rowsS x lo1 hi1 fr (to.set a m) (some zb) far1))
    (tc2 : TC R Try.prog __inverse_search__run_f [.ptr 4 0] (rowsS x lo1 hi1 (fr.set a (m + 1)) to (some zb) far1) (fun v X => v = .tup [] ∧ X = rowsT x lo2 hi2 (fr.set a (m + 1)) to zb nb far2)) :
    TC R Try.prog __inverse_search__run_f [.ptr 4 0] (rowsS x lo hi fr to (some zb) far0) (fun v X => v = .tup [] ∧ X = rowsT x lo2 hi2 fr to zb nb far2) := by
  have gi := hx.ok.g.i1
  have hb : ∀ k, k < x.n → fr.getD k 0 * x.st ≤ 255 ∧ to.getD k 0 * x.st ≤ 255 ∧ fr.getD k 0 ≤ 255 ∧ to.getD k 0 ≤ 255 ∧ fr.getD k 0 ≤ to.getD k 0 := fun k hk => by
    have h1 := hx.top k hk
    have h2 := hF k hk
    have h3 : fr.getD k 0 * x.st ≤ x.T k * x.st := Nat.mul_le_mul_right _ (by omega)
    have h4 : to.getD k 0 * x.st ≤ x.T k * x.st := Nat.mul_le_mul_right _ (by omega)
    have h5 : to.getD k 0 * 1 ≤ to.getD k 0 * x.st := Nat.mul_le_mul_left _ hx.pos
    omega
  have sb : ∀ i, i ≤ x.n → szN (fun k => fr.getD k 0 * x.st) i ≤ 255 * i := fun i => by
    induction i with
    | zero => intro _; exact Nat.le_refl _
    | succ i ihi => intro hi; have := ihi (by omega); have := hb i (by omega); simp only [szN]; omega
  have lf : (nz fr).length = x.n := by rw [nz_len]; exact hf
  have lt : (nz to).length = x.n := by rw [nz_len]; exact ht
  have tot := hx.tot
  have ba := hb a ha
  have ga := hF a ha
  obtain ⟨W, hW2⟩ : ∃ W, W = (wd fr to x.n).1 := ⟨_, rfl⟩
  rw [← hW2] at hW
  have mb : fr.getD a 0 ≤ m ∧ m < to.getD a 0 := by omega
  have g1 : (nz fr).getD a 0 = ((fr.getD a 0 : Nat) : Int) := nz_get
  have g2 : (nz to).getD a 0 = ((to.getD a 0 : Nat) : Int) := nz_get
  have qm : quo (((fr.getD a 0 : Nat) : Int) + ((to.getD a 0 : Nat) : Int)) 2 = ((m : Nat) : Int) := by rw [quo_nn (by omega)]; omega
  have r1 : (nz to).set a (quo ((nz fr).getD a 0 + (nz to).getD a 0) 2) = nz (to.set a m) := by rw [g1, g2, qm]; exact nz_set
  have r2 : (nz fr).set a (quo ((nz fr).getD a 0 + (nz to).getD a 0) 2 + 1) = nz (fr.set a (m + 1)) := by rw [g1, g2, qm]; exact nz_set
  have r3 : (nz (to.set a m)).set a ((nz to).getD a 0) = nz to := by
    rw [g2, nz_set, List.set_set]
    congr 1
    exact ext_getD 0 (by rw [List.length_set]) fun k _ => by
      by_cases e : k = a
      · subst e; rw [nset_eq (by omega)]
      · rw [nset_ne (by omega)]
  have r4 : (nz (fr.set a (m + 1))).set a ((nz fr).getD a 0) = nz fr := by
    rw [g1, nz_set, List.set_set]
    congr 1
    exact ext_getD 0 (by rw [List.length_set]) fun k _ => by
      by_cases e : k = a
      · subst e; rw [nset_eq (by omega)]
      · rw [nset_ne (by omega)]
  have l1 : (nz (to.set a m)).length = x.n := by rw [nz_len, List.length_set]; exact ht
  have l2 : (nz (fr.set a (m + 1))).length = x.n := by rw [nz_len, List.length_set]; exact hf
  have d5 : -9223372036854775808 ≤ quo ((nz fr).getD a 0 + (nz to).getD a 0) 2 + 1 ∧ quo ((nz fr).getD a 0 + (nz to).getD a 0) 2 + 1 ≤ 9223372036854775807 := by rw [g1, g2, qm]; omega
  have d6 : rng .i64 (quo ((nz fr).getD a 0 + (nz to).getD a 0) 2) := by rw [g1, g2, qm]; simp only [rng]; omega
  have gn := hx.ok.g.i1
  obtain ⟨kk, hk⟩ : ∃ kk, x.n = kk + 1 := ⟨x.n - 1, by omega⟩
  unfold BoundS at tcb
  unfold BeforeS at tcr
  dsimp only [srow, encP, encA] at tcb tcr
  refine tc env __inverse_search__run_s (by rfl) ?_
  dsimp only [__inverse_search__run_c, rowsS, rowsT, srow, encP, encA]
  dsimp only [rowsS, rowsT, srow, encP, encA] at tc1
  repeat' (first
    | refine GZp_i_2i_L2iJ ?_ ?_ ?_ ?_ ?_ ?_ ?_ ?_
    | with_reducible first | exact BzZq.mk | refine Tw.ret ?_ | refine ImZq.i fun h => ?_ | refine IkZq.i fun hk => ?_)
  refine Tw.loopK [0, 18] (fun i : Nat => i ≤ x.n) (fun i => x.n - i) (fun i => [(19, .int .i64 i), (2, .int .i64 (szN (fun k => fr.getD k 0 * x.st) i : Nat)), (3, .int .i64 ((wd fr to i).1 : Nat)), (4, .int .i64 ((wd fr to i).2 : Nat))])
    (fun _ => [some (.arr Ei lo), some (.arr Ei hi), some (.arr Ei (nz fr)), some (.arr Ei (nz to)), some (srow x.p x.q x.n (.sla 1 5 0 x.n) far0), some (.arr Ei (nz zb))]) ⟨0, by omega, TWk.fcanon env [some 0, some 1, some 2, some 3, some 4, some 5] (by rfl) ?_⟩ (fun i hii => ?_)
  · repeat' (first
      | with_reducible first | exact Conj.nil | refine Conj.cons rfl ?_ | refine Conj.same ?_ | refine Conj.ask ?_ ?_
      | ((with_reducible refine Due.mk ?_); (first | with_reducible rfl | omega | assumption | decide | ((try simp only [goS] at *) <;> (try intro h) <;> (try intro h') <;> (try simp only [goS] at *) <;> (try simp only [rdi, rd2i, rdL2iJ, Int.toNat_natCast, Nat.add_zero] at *) <;> (try simp only [rng]) <;> (first | assumption | omega)) | (exact due_app0 (by omega)) | (exact due_app (by omega)) | (intros; simp; done) | (intros; simp; omega)))
      | with_reducible refine Due.mk ?_
      | omega)
  rcases Nat.lt_or_ge i x.n with hiq | hiq
  · have b1 := hb i hiq
    have b2 := sb (i + 1) (by omega)
    have b3 := sb i (by omega)
    have n1 : (nz fr).getD i 0 * x.q.st = ((fr.getD i 0 * x.st : Nat) : Int) := by rw [nz_get, hx.st, Int.natCast_mul]
    have n2 : (nz fr).getD i 0 = ((fr.getD i 0 : Nat) : Int) := nz_get
    have n3 : (nz to).getD i 0 = ((to.getD i 0 : Nat) : Int) := nz_get
    have d1 : -9223372036854775808 ≤ (nz fr).getD i 0 * x.q.st ∧ (nz fr).getD i 0 * x.q.st ≤ 9223372036854775807 := by rw [n1]; omega
    have e1 : szN (fun k => fr.getD k 0 * x.st) (i + 1) = szN (fun k => fr.getD k 0 * x.st) i + fr.getD i 0 * x.st := rfl
    have d2 : -9223372036854775808 ≤ ((szN (fun k => fr.getD k 0 * x.st) i : Nat) : Int) + (nz fr).getD i 0 * x.q.st ∧ ((szN (fun k => fr.getD k 0 * x.st) i : Nat) : Int) + (nz fr).getD i 0 * x.q.st ≤ 9223372036854775807 := by rw [n1]; omega
    have d3 : -9223372036854775808 ≤ (nz to).getD i 0 - (nz fr).getD i 0 ∧ (nz to).getD i 0 - (nz fr).getD i 0 ≤ 9223372036854775807 := by rw [n2, n3]; omega
    have e2 : ((szN (fun k => fr.getD k 0 * x.st) (i + 1) : Nat) : Int) = ((szN (fun k => fr.getD k 0 * x.st) i : Nat) : Int) + (nz fr).getD i 0 * x.q.st := by rw [n1, e1]; omega
    by_cases hw : (wd fr to i).1 < to.getD i 0 - fr.getD i 0
    · have w1 : wd fr to (i + 1) = (to.getD i 0 - fr.getD i 0, i) := by simp only [wd]; rw [if_pos hw]
      have w2 : (((wd fr to (i + 1)).1 : Nat) : Int) = (nz to).getD i 0 - (nz fr).getD i 0 := by rw [w1, n2, n3]; dsimp only; omega
      have w3 : (((wd fr to (i + 1)).2 : Nat) : Int) = (i : Int) := by rw [w1]
      have hw2 : (((wd fr to i).1 : Nat) : Int) < (nz to).getD i 0 - (nz fr).getD i 0 := by rw [n2, n3]; omega
      repeat' (first
        | exact d1
        | exact d2
        | exact d3
        | refine GZy_i_2i_L2iJ (And.intro lf lt) ?_ ?_ ?_ ?_ ?_ ?_ ?_ ?_
        | with_reducible first | exact BzZq.mk | refine Tw.ret ?_ | refine ImZq.i fun h => ?_ | refine IkZq.i fun hk => ?_)
      refine ⟨i + 1, by omega, by omega, TWk.fcanon env [some 0, some 1, some 2, some 3, some 4, some 5] (by rfl) ?_⟩
      repeat' (first
        | exact e2
        | exact w2
        | exact w3
        | with_reducible first | exact Conj.nil | refine Conj.cons rfl ?_ | refine Conj.same ?_ | refine Conj.ask ?_ ?_
        | ((with_reducible refine Due.mk ?_); (first | with_reducible rfl | omega | assumption | decide | ((try simp only [goS] at *) <;> (try intro h) <;> (try intro h') <;> (try simp only [goS] at *) <;> (try simp only [rdi, rd2i, rdL2iJ, Int.toNat_natCast, Nat.add_zero] at *) <;> (try simp only [rng]) <;> (first | assumption | omega)) | (exact due_app0 (by omega)) | (exact due_app (by omega)) | (intros; simp; done) | (intros; simp; omega)))
        | with_reducible refine Due.mk ?_
        | omega)
    · have w1 : wd fr to (i + 1) = wd fr to i := by simp only [wd]; rw [if_neg hw]
      have w2 : (((wd fr to (i + 1)).1 : Nat) : Int) = (((wd fr to i).1 : Nat) : Int) := by rw [w1]
      have w3 : (((wd fr to (i + 1)).2 : Nat) : Int) = (((wd fr to i).2 : Nat) : Int) := by rw [w1]
      have hw2 : ¬ (((wd fr to i).1 : Nat) : Int) < (nz to).getD i 0 - (nz fr).getD i 0 := by rw [n2, n3]; omega
      repeat' (first
        | exact d1
        | exact d2
        | exact d3
        | refine GZy_i_2i_L2iJ (And.intro lf lt) ?_ ?_ ?_ ?_ ?_ ?_ ?_ ?_
        | with_reducible first | exact BzZq.mk | refine Tw.ret ?_ | refine ImZq.i fun h => ?_ | refine IkZq.i fun hk => ?_)
      refine ⟨i + 1, by omega, by omega, TWk.fcanon env [some 0, some 1, some 2, some 3, some 4, some 5] (by rfl) ?_⟩
      repeat' (first
        | exact e2
        | exact w2
        | exact w3
        | with_reducible first | exact Conj.nil | refine Conj.cons rfl ?_ | refine Conj.same ?_ | refine Conj.ask ?_ ?_
        | ((with_reducible refine Due.mk ?_); (first | with_reducible rfl | omega | assumption | decide | ((try simp only [goS] at *) <;> (try intro h) <;> (try intro h') <;> (try simp only [goS] at *) <;> (try simp only [rdi, rd2i, rdL2iJ, Int.toNat_natCast, Nat.add_zero] at *) <;> (try simp only [rng]) <;> (first | assumption | omega)) | (exact due_app0 (by omega)) | (exact due_app (by omega)) | (intros; simp; done) | (intros; simp; omega)))
        | with_reducible refine Due.mk ?_
        | omega)
  obtain rfl : i = x.n := by omega
  rw [← hW2, hA]
  repeat' (first
    | refine GZp_i_2i_L2iJ ?_ ?_ ?_ ?_ ?_ ?_ ?_ ?_
    | with_reducible first | exact BzZq.mk | refine Tw.ret ?_ | refine ImZq.i fun h => ?_ | refine IkZq.i fun hk => ?_)
  rw [hk]
  repeat' (first
    | refine GZp_i_2i_L2iJ ?_ ?_ ?_ ?_ ?_ ?_ ?_ ?_
    | with_reducible first | exact BzZq.mk | refine Tw.ret ?_ | refine ImZq.i fun h => ?_ | refine IkZq.i fun hk => ?_)
  rw [← hk]
  ((with_reducible refine TOps.any ?_); refine TOps.callHE env [0, 1, 2, 3, 4, 5] (tcb) (by rfl) (by rfl) (by rfl) (by rfl) (by rfl) (by rfl) (by repeat' (first | exact trivial | refine ⟨rfl, ?_⟩)) ?_)
  repeat' (first
    | refine GZp_i_2i_L2iJ ?_ ?_ ?_ ?_ ?_ ?_ ?_ ?_
    | with_reducible first | exact BzZq.mk | refine Tw.ret ?_ | refine ImZq.i fun h => ?_ | refine IkZq.i fun hk => ?_)
  repeat' (first
    | exact d6
    | refine GZy_i_2i_L2iJ (And.intro lf lt) ?_ ?_ ?_ ?_ ?_ ?_ ?_ ?_
    | with_reducible first | exact BzZq.mk | refine Tw.ret ?_ | refine ImZq.i fun h => ?_ | refine IkZq.i fun hk => ?_)
  rw [show (nz to).set ((a : Int).toNat + 0) (quo ((nz fr).getD ((a : Int).toNat + 0) (R.d Ei) + (nz to).getD ((a : Int).toNat + 0) (R.d Ei)) 2) = nz (to.set a m) from r1]
  ((with_reducible refine TOps.any ?_); refine TOps.callHE env [0, 1, 2, 3, 4, 5] (tc1) (by rfl) (by rfl) (by rfl) (by rfl) (by rfl) (by rfl) (by repeat' (first | exact trivial | refine ⟨rfl, ?_⟩)) ?_)
  repeat' (first
    | exact d6
    | exact d5
    | refine GZy_i_2i_L2iJ (And.intro l1 lf) ?_ ?_ ?_ ?_ ?_ ?_ ?_ ?_
    | with_reducible first | exact BzZq.mk | refine Tw.ret ?_ | refine ImZq.i fun h => ?_ | refine IkZq.i fun hk => ?_)
  rw [show (nz fr).set ((a : Int).toNat + 0) (quo ((nz fr).getD ((a : Int).toNat + 0) (R.d Ei) + (nz to).getD ((a : Int).toNat + 0) (R.d Ei)) 2 + 1) = nz (fr.set a (m + 1)) from r2, show (nz (to.set a m)).set ((a : Int).toNat + 0) ((nz to).getD ((a : Int).toNat + 0) (R.d Ei)) = nz to from r3]
  cases nb with
  | none =>
    dsimp only [rowsS, rowsT, srow, encP, encA] at tc2 ⊢
    ((with_reducible refine TOps.any ?_); refine TOps.callHE env [0, 1, 2, 3, 4, 5] (tc2) (by rfl) (by rfl) (by rfl) (by rfl) (by rfl) (by rfl) (by repeat' (first | exact trivial | refine ⟨rfl, ?_⟩)) ?_)
    repeat' (first
      | refine GZy_i_2i_L2iJ (And.intro l2 lt) ?_ ?_ ?_ ?_ ?_ ?_ ?_ ?_
      | with_reducible first | exact BzZq.mk | refine Tw.ret ?_ | refine ImZq.i fun h => ?_ | refine IkZq.i fun hk => ?_)
    all_goals
      rw [show (nz (fr.set a (m + 1))).set ((a : Int).toNat + 0) ((nz fr).getD ((a : Int).toNat + 0) (R.d Ei)) = nz fr from r4]
      exact ⟨rfl, rfl⟩
  | some zs =>
    dsimp only [rowsS, rowsT, srow, encP, encA] at tc2 ⊢
    ((with_reducible refine TOps.any ?_); refine TOps.callHE env [0, 1, 2, 3, 4, 5] (tc2) (by rfl) (by rfl) (by rfl) (by rfl) (by rfl) (by rfl) (by repeat' (first | exact trivial | refine ⟨rfl, ?_⟩)) ?_)
    repeat' (first
      | refine GZy_i_2i_L2iJ (And.intro l2 lt) ?_ ?_ ?_ ?_ ?_ ?_ ?_ ?_
      | with_reducible first | exact BzZq.mk | refine Tw.ret ?_ | refine ImZq.i fun h => ?_ | refine IkZq.i fun hk => ?_)
    all_goals
      rw [show (nz (fr.set a (m + 1))).set ((a : Int).toNat + 0) ((nz fr).getD ((a : Int).toNat + 0) (R.d Ei)) = nz fr from r4]
      exact ⟨rfl, rfl⟩
end Go.Proofs.Ytkapjajlkpepmaa
