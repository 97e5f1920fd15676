/- Merged: Prf2 PrfM Inv1 Inv2 Inv3 Inv4. -/
import Derived.Test.YtkapjajlkpepmaaTones
import Derived.Test.YtkapjajlkpepmaaGo
import Derived.Test.YtkapjajlkpepmaaCurve1
import Derived.Test.YtkapjajlkpepmaaXDevicelinkSelf0
namespace Go.Proofs.Ytkapjajlkpepmaa
open Go Go.Lite
set_option linter.unusedVariables false
set_option linter.unusedSimpArgs false
set_option maxRecDepth 100000
set_option maxHeartbeats 4000000
-- @simp rdi rd2i rdL2iJ

noncomputable def fn1 (p : Prf) (k : Nat) (t : Int) : Int := raw (p.cs.getD k []) (256 * t)
theorem fineOne_c (p : Prf) (k : Nat) (t : Int) (hk : Due (k < p.cs.length)) (hv : Valid (p.cs.getD k [])) (ht : Due (0 ≤ t ∧ t ≤ 255)) :
    TC R Try.prog profile_FineOne_f [.pel (encP p), .int .i64 k, .int .i64 t] [] (fun v X => v = .int .i64 (fn1 p k t) ∧ X = []) := by
  dsimp only [Due] at hk ht
  have rc := raw_c (p.cs.getD k (R.d EL2iJ)) (256 * t) hv (by unfold Due; omega)
  refine tc0 env profile_FineOne_s (by rfl) ?_
  dsimp only [profile_FineOne_c, encP]
  repeat' (first
    | ((with_reducible refine TOps.any ?_); refine TOps.callV env (by rfl) (by rfl) (by rfl) (rc) ?_)
    | refine GZp_i_2i_L2iJ ?_ ?_ ?_ ?_ ?_ ?_ ?_ ?_
    | with_reducible first | exact BzZq.mk | refine Tw.ret ?_ | refine ImZq.i fun h => ?_ | refine IkZq.i fun hk => ?_)
  exact ⟨rfl, rfl, rfl⟩
theorem fn1_bd {p : Prf} {k : Nat} {t : Int} (hv : Valid (p.cs.getD k [])) (ht : 0 ≤ t ∧ t ≤ 255) : 0 ≤ fn1 p k t ∧ fn1 p k t ≤ 65280 := by
  have b := raw_bd hv (x := 256 * t) (by omega)
  have l := hv.len
  have r := hv.rg ((p.cs.getD k []).length - 1) (by omega)
  unfold fn1
  omega
noncomputable def fnN (p : Prf) (ys : List Nat) (k : Nat) : Nat := (fn1 p k (ys.getD k 0 : Nat)).toNat
noncomputable def fnL (p : Prf) (ys : List Nat) (inn : Nat) : List Nat := tab inn (fnN p ys)
theorem fine_r (p : Prf) (inn : Nat) (ys : List Nat) (hn : inn ≤ 4) (hc : p.cs.length = inn) (hv : ∀ i, i < inn → Valid (p.cs.getD i [])) (hy : ys.length = inn ∧ ∀ i, i < inn → ys.getD i 0 ≤ 255) :
    TC R Try.prog profile_Fine_f [.pel (encP p), .lst Ei (nz ys)] [] (fun v X => v = .sla 1 0 0 inn ∧ X = [some (.arr Ei (nz (fnL p ys inn)))]) := by
  obtain ⟨hy, hb⟩ := hy
  have lz : (nz ys).length = inn := by rw [nz_len]; exact hy
  have en : nz (fnL p ys inn) = tab inn fun i => fn1 p i (ys.getD i 0 : Nat) := is_tab 0 (by rw [nz_len]; exact tab_len) fun i hi => by
    rw [nz_get]
    unfold fnL
    rw [tab_get hi]
    have := fn1_bd (hv i hi) (t := (ys.getD i 0 : Nat)) (by have := hb i hi; omega)
    unfold fnN
    omega
  rw [en]
  obtain ⟨G, hG⟩ : ∃ G : Nat → Int, G = fun i => fn1 p i (ys.getD i 0 : Nat) := ⟨_, rfl⟩
  have fo : ∀ i, i < inn → TC R Try.prog profile_FineOne_f [.pel (encP p), .int .i64 i, .int .i64 ((nz ys).getD i 0)] [] (fun v X => v = .int .i64 (G i) ∧ X = []) := fun i hi => by
    rw [nz_get, hG]
    exact fineOne_c p i _ (by unfold Due; omega) (hv i hi) (by have := hb i hi; unfold Due; omega)
  rw [← hG]
  refine tc env profile_Fine_s (by rfl) ?_
  dsimp only [profile_Fine_c]
  repeat' (first
    | refine GZy_i_2i_L2iJ lz ?_ ?_ ?_ ?_ ?_ ?_ ?_ ?_
    | with_reducible first | exact BzZq.mk | refine Tw.ret ?_ | refine ImZq.i fun h => ?_ | refine IkZq.i fun hk => ?_)
  rw [lz, Int.toNat_natCast]
  refine Tw.loopK [0, 11, 12] (fun i : Nat => i ≤ inn) (fun i => inn - i) (fun i => [(13, .int .i64 i), (5, .sla 1 0 0 inn)]) (fun i => [some (.arr Ei (ptab inn i G))]) ⟨0, by omega, ?_⟩ (fun i hi => ?_)
  · rw [ptab_zero]
    refine TWk.fcanon env [some 0] (by rfl) ?_
    repeat' (first
      | exact lz
      | exact lz.symm
      | with_reducible first | exact Conj.nil | refine Conj.cons rfl ?_ | refine Conj.same ?_ | refine Conj.ask ?_ ?_
      | ((with_reducible refine Due.mk ?_); (first | with_reducible rfl | omega | assumption | decide | ((try simp only [goS] at *) <;> (try intro h) <;> (try intro h') <;> (try simp only [goS] at *) <;> (try simp only [rdi, rd2i, rdL2iJ, Int.toNat_natCast, Nat.add_zero] at *) <;> (try simp only [rng]) <;> (first | assumption | omega)) | (exact due_app0 (by omega)) | (exact due_app (by omega)) | (intros; simp; done) | (intros; simp; omega)))
      | with_reducible refine Due.mk ?_
      | omega)
  have pl : (ptab inn i G).length = inn := ptab_len
  rcases Nat.lt_or_ge i inn with hi2 | hi2
  · have fc := fo i hi2
    have ps : (ptab inn i G).set i (G i) = ptab inn (i + 1) G := ptab_set
    repeat' (first
      | ((with_reducible refine TOps.any ?_); refine TOps.callV env (by rfl) (by rfl) (by rfl) (fc) ?_)
      | refine GZy_i_2i_L2iJ (And.intro pl lz) ?_ ?_ ?_ ?_ ?_ ?_ ?_ ?_
      | with_reducible first | exact BzZq.mk | refine Tw.ret ?_ | refine ImZq.i fun h => ?_ | refine IkZq.i fun hk => ?_)
    refine ⟨i + 1, by omega, by omega, TWk.fcanon env [some 0] (by rfl) ?_⟩
    repeat' (first
      | exact ps.symm
      | with_reducible first | exact Conj.nil | refine Conj.cons rfl ?_ | refine Conj.same ?_ | refine Conj.ask ?_ ?_
      | ((with_reducible refine Due.mk ?_); (first | with_reducible rfl | omega | assumption | decide | ((try simp only [goS] at *) <;> (try intro h) <;> (try intro h') <;> (try simp only [goS] at *) <;> (try simp only [rdi, rd2i, rdL2iJ, Int.toNat_natCast, Nat.add_zero] at *) <;> (try simp only [rng]) <;> (first | assumption | omega)) | (exact due_app0 (by omega)) | (exact due_app (by omega)) | (intros; simp; done) | (intros; simp; omega)))
      | with_reducible refine Due.mk ?_
      | omega)
  obtain rfl : i = inn := by omega
  rw [ptab_all]
  repeat' (first
    | refine GZp_i_2i_L2iJ ?_ ?_ ?_ ?_ ?_ ?_ ?_ ?_
    | with_reducible first | exact BzZq.mk | refine Tw.ret ?_ | refine ImZq.i fun h => ?_ | refine IkZq.i fun hk => ?_)
  exact ⟨rfl, rfl⟩
theorem fnL_ok {p : Prf} {inn : Nat} {ys : List Nat} (hv : ∀ i, i < inn → Valid (p.cs.getD i [])) (hy : ys.length = inn ∧ ∀ i, i < inn → ys.getD i 0 ≤ 255) : (fnL p ys inn).length = inn ∧ ∀ i, i < inn → (fnL p ys inn).getD i 0 ≤ 65280 := by
  refine ⟨tab_len, fun i hi => ?_⟩
  unfold fnL
  rw [tab_get hi]
  have := fn1_bd (hv i hi) (t := (ys.getD i 0 : Nat)) (by have := hy.2 i hi; omega)
  unfold fnN
  omega
noncomputable def pcol (p : Prf) (inn s : Nat) (ys : List Nat) (o : Nat) : Int := gat p.v 3 s o (fnL p ys inn)
theorem pquick_c (p : Prf) (inn s : Nat) (ys : List Nat) (h : PrfOk p inn s) (hy : ys.length = inn ∧ ∀ i, i < inn → ys.getD i 0 ≤ 255) :
    TC R Try.prog profile_Quick_f [.pel (encP p), .lst Ei (nz ys)] [] (fun v X => v = .agg [.int .i64 (pcol p inn s ys 0), .int .i64 (pcol p inn s ys 1), .int .i64 (pcol p inn s ys 2)] ∧ X = []) := by
  have gi := h.g.i1
  have fr := fine_r p inn ys gi.2 h.cl h.cv hy
  have fo := fnL_ok h.cv hy
  have qr := quick_r inn 3 s p.v (fnL p ys inn) h.g fo
  rw [← h.ea, ← h.ec, show (((3 : Nat) : Int)) = p.b from h.eb.symm] at qr
  have e3 : (tab 3 fun o => gat p.v 3 s o (fnL p ys inn)) = [pcol p inn s ys 0, pcol p inn s ys 1, pcol p inn s ys 2] := rfl
  rw [e3] at qr
  have lf : (nz (fnL p ys inn)).length = inn := by rw [nz_len]; exact fo.1
  generalize nz (fnL p ys inn) = L at *
  generalize pcol p inn s ys 0 = x at *
  generalize pcol p inn s ys 1 = y at *
  generalize pcol p inn s ys 2 = z at *
  rw [← show cut L 0 inn = L from cut_all lf.symm] at qr
  have lf2 : inn ≤ L.length := by omega
  refine tc0 env profile_Quick_s (by rfl) ?_
  dsimp only [profile_Quick_c, encP]
  repeat' (first
    | ((with_reducible refine TDr.any ?_); refine TDr.callN env (by first | rfl | assumption) (by rfl) (by rfl) ?_ (fr) (by rfl) (by rfl) ?_)
    | ((with_reducible refine TDr.any ?_); refine TDr.callN env (by first | rfl | assumption) (by rfl) (by rfl) ?_ (qr) (by rfl) (by rfl) ?_)
    | refine GZp_i_2i_L2iJ ?_ ?_ ?_ ?_ ?_ ?_ ?_ ?_
    | with_reducible first | exact BzZq.mk | refine Tw.ret ?_ | refine ImZq.i fun h => ?_ | refine IkZq.i fun hk => ?_)
  exact ⟨rfl, rfl, rfl⟩
end Go.Proofs.Ytkapjajlkpepmaa
namespace Go.Proofs.Ytkapjajlkpepmaa
open Go Go.Lite
set_option linter.unusedVariables false
set_option linter.unusedSimpArgs false
set_option maxRecDepth 100000
set_option maxHeartbeats 4000000
theorem gnode_cell {inn out s : Nat} {vals : List Int} (g : GOk inn out s vals) {xs : List Nat} (hl : xs.length = inn) (hx : ∀ i, i < inn → xs.getD i 0 ≤ 65280) {t : Nat} (ht : t < gstep s) : ndx s 0 (xs.map fun x => (x + t) / gstep s) < s ^ inn := by
  obtain ⟨st1, st2, st3⟩ := g.step
  have hs : 2 ≤ s := by have := g.s1; omega
  have hk : ∀ k ∈ xs.map (fun x => (x + t) / gstep s), k < s := fun k hk => by
    obtain ⟨x, hx2, rfl⟩ := List.mem_map.1 hk
    obtain ⟨i, hi, rfl⟩ := mem_getD (d := 0) hx2
    have := hx i (by omega)
    refine Nat.lt_of_le_of_lt (Nat.div_le_div_right (c := gstep s) (show xs.getD i 0 + t ≤ (s - 1) * gstep s + (gstep s - 1) by omega)) ?_
    rw [Nat.mul_comm, Nat.mul_add_div (by omega), Nat.div_eq_of_lt (show gstep s - 1 < gstep s by omega)]
    omega
  exact (at_in g (by rw [List.length_map]; exact hl) hk (o := 0) (by have := g.o1; omega)).2
theorem graw_in {inn out s : Nat} {vals : List Int} (g : GOk inn out s vals) {xs : List Nat} (hl : xs.length = inn) (hx : ∀ i, i < inn → xs.getD i 0 ≤ 65280) {o : Nat} {lo hi : Int} (hb : ∀ n, n < s ^ inn → lo ≤ vals.getD (n * out + o) 0 ∧ vals.getD (n * out + o) 0 ≤ hi) :
    lo * (gstep s : Int) ≤ graw vals out s (gstep s) o xs ∧ graw vals out s (gstep s) o xs ≤ hi * (gstep s : Int) := by
  have node : ∀ t, t < gstep s → lo ≤ gnode vals out s o (xs.map fun x => (x + t) / gstep s) ∧ gnode vals out s o (xs.map fun x => (x + t) / gstep s) ≤ hi := fun t ht => hb _ (gnode_cell g hl hx ht)
  unfold graw
  constructor
  · have := sumN_le (f := fun _ => lo) (n := gstep s) fun t ht => (node t ht).1
    rwa [sumN_const (c := lo) fun _ _ => rfl, Int.mul_comm] at this
  · have := sumN_le (g := fun _ => hi) (n := gstep s) fun t ht => (node t ht).2
    rwa [sumN_const (c := hi) fun _ _ => rfl, Int.mul_comm] at this
theorem gat_in {inn out s : Nat} {vals : List Int} (g : GOk inn out s vals) {xs : List Nat} (hl : xs.length = inn) (hx : ∀ i, i < inn → xs.getD i 0 ≤ 65280) {o : Nat} {lo hi : Int} (hb : ∀ n, n < s ^ inn → lo ≤ vals.getD (n * out + o) 0 ∧ vals.getD (n * out + o) 0 ≤ hi) :
    lo ≤ gat vals out s o xs ∧ gat vals out s o xs ≤ hi := by
  obtain ⟨st1, st2, st3⟩ := g.step
  have h := graw_in g hl hx hb
  unfold gat
  have hp : (0 : Int) < (gstep s : Int) := by omega
  have h1 := near_mono hp h.1
  have h2 := near_mono hp h.2
  rw [near_full hp] at h1 h2
  exact ⟨h1, h2⟩
theorem pcol_ok {p : Prf} {inn s : Nat} {ys : List Nat} (h : PrfOk p inn s) (hy : ys.length = inn ∧ ∀ i, i < inn → ys.getD i 0 ≤ 255) : labOk (pcol p inn s ys 0) (pcol p inn s ys 1) (pcol p inn s ys 2) := by
  have fo := fnL_ok h.cv hy
  have l := h.lab
  have b0 := gat_in h.g fo.1 fo.2 (o := 0) (lo := 0) (hi := 10000) fun n hn => by
    have := l n hn
    unfold labOk at this
    rw [Nat.mul_comm 3 n] at this
    exact ⟨this.1, this.2.1⟩
  have b1 := gat_in h.g fo.1 fo.2 (o := 1) (lo := -12800) (hi := 12800) fun n hn => by
    have := l n hn
    unfold labOk at this
    rw [Nat.mul_comm 3 n] at this
    exact ⟨this.2.2.1, this.2.2.2.1⟩
  have b2 := gat_in h.g fo.1 fo.2 (o := 2) (lo := -12800) (hi := 12800) fun n hn => by
    have := l n hn
    unfold labOk at this
    rw [Nat.mul_comm 3 n] at this
    exact ⟨this.2.2.2.2.1, this.2.2.2.2.2⟩
  exact ⟨b0.1, b0.2, b1.1, b1.2, b2.1, b2.2⟩
end Go.Proofs.Ytkapjajlkpepmaa
namespace Go.Proofs.Ytkapjajlkpepmaa
open Go Go.Lite
set_option linter.unusedVariables false
set_option linter.unusedSimpArgs false
set_option maxRecDepth 100000
set_option maxHeartbeats 4000000
-- @simp rdi rd2i rdL2iJ

structure Ask where
  tl : Int
  ta : Int
  tb : Int
  st : Int
  tot : Int
  lo : List Int
  hi : List Int
abbrev encA (q : Ask) : List (TV A) := [.int .i64 q.tl, .int .i64 q.ta, .int .i64 q.tb, .int .i64 q.st, .int .i64 q.tot, .lst Ei q.lo, .lst Ei q.hi]
abbrev srow (p : Prf) (q : Ask) (n : Nat) (b : TV A) (far : Int) : TRow A := .cells [.pel (encP p), .pel (encA q), b, .int .i64 far, .sla 1 0 0 n, .sla 1 1 0 n, .sla 1 2 0 n, .sla 1 3 0 n]
def befP (st : Int) (fr b : List Int) (n : Nat) : Prop := ∃ k, k < n ∧ (∀ j, j < k → fr.getD j 0 * st = b.getD j 0) ∧ fr.getD k 0 * st < b.getD k 0
theorem before_x (p : Prf) (q : Ask) (n : Nat) (far : Int) (lo hi fr to b : List Int) (hn : n ≤ 4) (hf : fr.length = n) (hb : b.length = n) (hs : ∀ k, k < n → 0 ≤ fr.getD k 0 * q.st ∧ fr.getD k 0 * q.st ≤ 255) :
    ∃ r : Bool, (r = true ↔ befP q.st fr b n) ∧ TC R Try.prog __inverse_search__before_f [.ptr 4 0] [some (.arr Ei lo), some (.arr Ei hi), some (.arr Ei fr), some (.arr Ei to), some (srow p q n (.sla 1 5 0 n) far), some (.arr Ei b)]
      (fun v X => v = .bool r ∧ X = [some (.arr Ei lo), some (.arr Ei hi), some (.arr Ei fr), some (.arr Ei to), some (srow p q n (.sla 1 5 0 n) far), some (.arr Ei b)]) := by
  refine ⟨@decide (befP q.st fr b n) (Classical.propDecidable _), by simp only [decide_eq_true_eq], ?_⟩
  obtain ⟨r, hr⟩ : ∃ r, r = @decide (befP q.st fr b n) (Classical.propDecidable _) := ⟨_, rfl⟩
  rw [← hr]
  refine tc env __inverse_search__before_s (by rfl) ?_
  dsimp only [__inverse_search__before_c, srow, encP, encA]
  repeat' (first
    | refine GZp_i_2i_L2iJ ?_ ?_ ?_ ?_ ?_ ?_ ?_ ?_
    | with_reducible first | exact BzZq.mk | refine Tw.ret ?_ | refine ImZq.i fun h => ?_ | refine IkZq.i fun hk => ?_)
  refine Tw.loopK [0, 8, 9] (fun i : Nat => i ≤ n ∧ ∀ j, j < i → fr.getD j 0 * q.st = b.getD j 0) (fun i => n - i) (fun i => [(10, .int .i64 i)]) (fun _ => [some (.arr Ei lo), some (.arr Ei hi), some (.arr Ei fr), some (.arr Ei to), some (srow p q n (.sla 1 5 0 n) far), some (.arr Ei b)])
    ⟨0, ⟨by omega, fun k hk => by omega⟩, TWk.fcanon env [some 0, some 1, some 2, some 3, some 4, some 5] (by rfl) ?_⟩ (fun i hi => ?_)
  · repeat' (first
      | with_reducible first | exact Conj.nil | refine Conj.cons rfl ?_ | refine Conj.same ?_ | refine Conj.ask ?_ ?_
      | ((with_reducible refine Due.mk ?_); (first | with_reducible rfl | omega | assumption | decide | ((try simp only [goS] at *) <;> (try intro h) <;> (try intro h') <;> (try simp only [goS] at *) <;> (try simp only [rdi, rd2i, rdL2iJ, Int.toNat_natCast, Nat.add_zero] at *) <;> (try simp only [rng]) <;> (first | assumption | omega)) | (exact due_app0 (by omega)) | (exact due_app (by omega)) | (intros; simp; done) | (intros; simp; omega)))
      | with_reducible refine Due.mk ?_
      | omega)
  obtain ⟨hi, hp⟩ := hi
  rcases Nat.lt_or_ge i n with hi2 | hi2
  · have sb := hs i hi2
    by_cases he : fr.getD i 0 * q.st = b.getD i 0
    · repeat' (first
        | refine GZy_i_2i_L2iJ (And.intro hf hb) ?_ ?_ ?_ ?_ ?_ ?_ ?_ ?_
        | with_reducible first | exact BzZq.mk | refine Tw.ret ?_ | refine ImZq.i fun h => ?_ | refine IkZq.i fun hk => ?_)
      refine ⟨i + 1, ⟨by omega, fun k hk => ?_⟩, by omega, TWk.fcanon env [some 0, some 1, some 2, some 3, some 4, some 5] (by rfl) ?_⟩
      · by_cases e : k = i
        · subst e; exact he
        · exact hp k (by omega)
      · repeat' (first
          | refine GZ_i_2i_L2iJ ?_ ?_ ?_ ?_ ?_ ?_ ?_ ?_
          | with_reducible first | exact BzZq.mk | refine Tw.ret ?_ | refine ImZq.i fun h => ?_ | refine IkZq.i fun hk => ?_)
    · have e : decide (fr.getD i 0 * q.st < b.getD i 0) = r := by
        rw [hr]
        simp only [decide_eq_decide]
        constructor
        · exact fun h1 => ⟨i, hi2, hp, h1⟩
        · rintro ⟨k, k1, k2, k3⟩
          rcases Nat.lt_trichotomy k i with h2 | h2 | h2
          · have := hp k h2; omega
          · subst h2; exact k3
          · exact absurd (k2 i h2) he
      repeat' (first
        | refine GZy_i_2i_L2iJ (And.intro hf hb) ?_ ?_ ?_ ?_ ?_ ?_ ?_ ?_
        | with_reducible first | exact BzZq.mk | refine Tw.ret ?_ | refine ImZq.i fun h => ?_ | refine IkZq.i fun hk => ?_)
      rw [← e]
      exact ⟨rfl, rfl⟩
  obtain rfl : i = n := by omega
  have e : false = r := by
    rw [hr]
    symm
    simp only [decide_eq_false_iff_not]
    rintro ⟨k, k1, k2, k3⟩
    have := hp k k1
    omega
  repeat' (first
    | refine GZp_i_2i_L2iJ ?_ ?_ ?_ ?_ ?_ ?_ ?_ ?_
    | with_reducible first | exact BzZq.mk | refine Tw.ret ?_ | refine ImZq.i fun h => ?_ | refine IkZq.i fun hk => ?_)
  rw [← e]
  exact ⟨rfl, rfl⟩
end Go.Proofs.Ytkapjajlkpepmaa
namespace Go.Proofs.Ytkapjajlkpepmaa
open Go Go.Lite
set_option linter.unusedVariables false
set_option linter.unusedSimpArgs false
set_option maxRecDepth 100000
set_option maxHeartbeats 4000000
-- @simp rdi rd2i rdL2iJ

def mixL (n i : Nat) (f : Nat → Int) (old : List Int) : List Int := tab n fun j => if j < i then f j else old.getD j 0
theorem mixL_len {n i : Nat} {f : Nat → Int} {old : List Int} : (mixL n i f old).length = n := tab_len
theorem mixL_zero {n : Nat} {f : Nat → Int} {old : List Int} (h : old.length = n) : mixL n 0 f old = old := (is_tab 0 h fun i _ => by rw [if_neg (by omega)]).symm
theorem mixL_all {n : Nat} {f : Nat → Int} {old : List Int} : mixL n n f old = tab n f := tab_congr fun i hi => if_pos hi
theorem mixL_set {n i : Nat} {f : Nat → Int} {old : List Int} : (mixL n i f old).set i (f i) = mixL n (i + 1) f old := by
  unfold mixL
  rw [tab_set]
  refine tab_congr fun j _ => ?_
  by_cases e : j = i
  · subst e; rw [if_pos rfl, if_pos (by omega)]
  · rw [if_neg e]
    by_cases h : j < i
    · rw [if_pos h, if_pos (by omega)]
    · rw [if_neg h, if_neg (by omega)]
/-- What lies between two inputs lies within the bounds. -/
theorem gat_box {inn out s : Nat} {vals : List Int} {lo hi xs : List Nat} {L M : List Int} (g : GOk inn out s vals) (h : HullOk vals inn out s lo hi L M) (hx : xs.length = inn) (hb : ∀ i, i < inn → lo.getD i 0 ≤ xs.getD i 0 ∧ xs.getD i 0 ≤ hi.getD i 0) {o : Nat} (ho : o < out) :
    L.getD o 0 ≤ gat vals out s o xs ∧ gat vals out s o xs ≤ M.getD o 0 := by
  obtain ⟨st1, st2, st3⟩ := g.step
  have node : ∀ t, t < gstep s → L.getD o 0 ≤ gnode vals out s o (xs.map fun x => (x + t) / gstep s) ∧ gnode vals out s o (xs.map fun x => (x + t) / gstep s) ≤ M.getD o 0 := fun t ht => by
    have e : (xs.map fun x => (x + t) / gstep s) = tab inn fun k => (xs.getD k 0 + t) / gstep s := is_tab 0 (by simpa using hx) fun i hi => by
      rw [getD_get _ (by simpa using (by omega : i < xs.length)), List.getElem_map, getD_get 0 (show i < xs.length by omega)]
    rw [e]
    refine h.bd o ho _ fun k hk => ?_
    have := hb k hk
    exact ⟨Nat.div_le_div_right (by omega), Nat.div_le_div_right (by omega)⟩
  have hp : (0 : Int) < (gstep s : Int) := by omega
  have h1 := sumN_le (f := fun _ => L.getD o 0) (n := gstep s) fun t ht => (node t ht).1
  have h2 := sumN_le (g := fun _ => M.getD o 0) (n := gstep s) fun t ht => (node t ht).2
  rw [sumN_const (c := L.getD o 0) fun _ _ => rfl, Int.mul_comm] at h1
  rw [sumN_const (c := M.getD o 0) fun _ _ => rfl, Int.mul_comm] at h2
  have h3 := near_mono hp h1
  have h4 := near_mono hp h2
  rw [near_full hp] at h3 h4
  exact ⟨h3, h4⟩
noncomputable def dst (p : Prf) (q : Ask) (inn s : Nat) (ys : List Nat) : Int := far (pcol p inn s ys 0) (pcol p inn s ys 1) (pcol p inn s ys 2) q.tl q.ta q.tb
/-- How far a number is from a range, at least. -/
def off1 (l t m : Int) : Int := max (max (l - t) (t - m)) 0
theorem off1_sq {l t m x : Int} (h : l ≤ x ∧ x ≤ m) : off1 l t m * off1 l t m ≤ (x - t) * (x - t) := by
  unfold off1
  by_cases h1 : x ≤ t
  · have := sq_le (a := max (max (l - t) (t - m)) 0) (b := t - x) (by omega) (by omega)
    have e : (x - t) * (x - t) = (t - x) * (t - x) := by rw [← Int.neg_sub t x, Int.neg_mul_neg]
    omega
  · have := sq_le (a := max (max (l - t) (t - m)) 0) (b := x - t) (by omega) (by omega)
    omega
noncomputable def bnd (q : Ask) (L M : List Int) : Int := off1 (L.getD 0 0) q.tl (M.getD 0 0) * off1 (L.getD 0 0) q.tl (M.getD 0 0) + off1 (L.getD 1 0) q.ta (M.getD 1 0) * off1 (L.getD 1 0) q.ta (M.getD 1 0) + off1 (L.getD 2 0) q.tb (M.getD 2 0) * off1 (L.getD 2 0) q.tb (M.getD 2 0)
theorem fn1_mono {p : Prf} {k : Nat} {a b : Nat} (hv : Valid (p.cs.getD k [])) (h : a ≤ b) (hb : b ≤ 255) : (fn1 p k (a : Nat)).toNat ≤ (fn1 p k (b : Nat)).toNat := by
  have := raw_mono hv (x := 256 * (a : Int)) (y := 256 * (b : Int)) (by omega) (by omega) (by omega)
  unfold fn1
  omega
theorem bnd_le {p : Prf} {q : Ask} {inn s : Nat} {us vs ys : List Nat} {L M : List Int} (h : PrfOk p inn s) (hu : us.length = inn) (hv : vs.length = inn) (hy : ys.length = inn) (hb : ∀ k, k < inn → us.getD k 0 ≤ ys.getD k 0 ∧ ys.getD k 0 ≤ vs.getD k 0 ∧ vs.getD k 0 ≤ 255)
    (ok : HullOk p.v inn 3 s (fnL p us inn) (fnL p vs inn) L M) : bnd q L M ≤ dst p q inn s ys := by
  have bx := fun o ho => gat_box (xs := fnL p ys inn) h.g ok tab_len (fun i hi => by
    unfold fnL
    rw [tab_get hi, tab_get hi, tab_get hi]
    have := hb i hi
    exact ⟨fn1_mono (h.cv i hi) this.1 (by omega), fn1_mono (h.cv i hi) this.2.1 (by omega)⟩) (o := o) ho
  have s0 := off1_sq (t := q.tl) (bx 0 (by omega))
  have s1 := off1_sq (t := q.ta) (bx 1 (by omega))
  have s2 := off1_sq (t := q.tb) (bx 2 (by omega))
  unfold bnd dst far pcol
  omega
def mulL (st : Nat) (l : List Nat) : List Nat := l.map (· * st)
theorem mulL_len {st : Nat} {l : List Nat} : (mulL st l).length = l.length := by simp [mulL]
theorem mulL_get {st : Nat} {l : List Nat} {i : Nat} : (mulL st l).getD i 0 = l.getD i 0 * st := by
  unfold mulL
  rw [List.getD_eq_getElem?_getD, List.getD_eq_getElem?_getD, List.getElem?_map]
  cases l[i]? <;> simp
theorem fnL_nz {p : Prf} {inn : Nat} {ys : List Nat} (hv : ∀ i, i < inn → Valid (p.cs.getD i [])) (hy : ys.length = inn ∧ ∀ i, i < inn → ys.getD i 0 ≤ 255) : nz (fnL p ys inn) = tab inn fun i => fn1 p i (ys.getD i 0 : Nat) := is_tab 0 (by rw [nz_len]; exact tab_len) fun i hi => by
  rw [nz_get]
  unfold fnL
  rw [tab_get hi]
  have := fn1_bd (hv i hi) (t := (ys.getD i 0 : Nat)) (by have := hy.2 i hi; omega)
  unfold fnN
  omega
theorem bound_x (p : Prf) (q : Ask) (inn s st : Nat) (far : Int) (lo hi b : List Int) (fr to : List Nat) (h : PrfOk p inn s) (hq : labOk q.tl q.ta q.tb) (hst : q.st = st) (hf : fr.length = inn) (ht : to.length = inn) (hlo : lo.length = inn) (hhi : hi.length = inn)
    (hb : ∀ k, k < inn → fr.getD k 0 * st ≤ to.getD k 0 * st ∧ to.getD k 0 * st ≤ 255) :
    ∃ (N : Int) (lo' hi' : List Int), lo'.length = inn ∧ hi'.length = inn ∧ (∀ ys : List Nat, ys.length = inn → (∀ k, k < inn → fr.getD k 0 * st ≤ ys.getD k 0 ∧ ys.getD k 0 ≤ to.getD k 0 * st) → N ≤ dst p q inn s ys) ∧
    TC R Try.prog __inverse_search__bound_f [.ptr 4 0] [some (.arr Ei lo), some (.arr Ei hi), some (.arr Ei (nz fr)), some (.arr Ei (nz to)), some (srow p q inn (.sla 1 5 0 inn) far), some (.arr Ei b)]
      (fun v X => v = .int .i64 N ∧ X = [some (.arr Ei lo'), some (.arr Ei hi'), some (.arr Ei (nz fr)), some (.arr Ei (nz to)), some (srow p q inn (.sla 1 5 0 inn) far), some (.arr Ei b)]) := by
  have gi := h.g.i1
  obtain ⟨us, hus⟩ : ∃ us, us = mulL st fr := ⟨_, rfl⟩
  obtain ⟨vs, hvs⟩ : ∃ vs, vs = mulL st to := ⟨_, rfl⟩
  have ul : us.length = inn := by rw [hus, mulL_len, hf]
  have vl : vs.length = inn := by rw [hvs, mulL_len, ht]
  have ug : ∀ k, us.getD k 0 = fr.getD k 0 * st := fun k => by rw [hus, mulL_get]
  have vg : ∀ k, vs.getD k 0 = to.getD k 0 * st := fun k => by rw [hvs, mulL_get]
  have ub : ∀ k, k < inn → us.getD k 0 ≤ vs.getD k 0 ∧ vs.getD k 0 ≤ 255 := fun k hk => by rw [ug, vg]; exact hb k hk
  have fu := fnL_nz h.cv ⟨ul, fun i hi => by have := ub i hi; omega⟩
  have fv := fnL_nz h.cv ⟨vl, fun i hi => by have := ub i hi; omega⟩
  have okv := fnL_ok h.cv ⟨vl, fun i hi => by have := ub i hi; omega⟩
  obtain ⟨L, M, ok, hc⟩ := hull_x inn 3 s p.v (fnL p us inn) (fnL p vs inn) h.g tab_len tab_len (fun i hi => ⟨by
    unfold fnL
    rw [tab_get hi, tab_get hi]
    have := ub i hi
    exact fn1_mono (h.cv i hi) this.1 this.2, okv.2 i hi⟩)
  obtain ⟨lo', hlo'⟩ : ∃ l, l = nz (fnL p us inn) := ⟨_, rfl⟩
  obtain ⟨hi', hhi'⟩ : ∃ l, l = nz (fnL p vs inn) := ⟨_, rfl⟩
  have ll' : lo'.length = inn := by rw [hlo', nz_len]; exact tab_len
  have lh' : hi'.length = inn := by rw [hhi', nz_len]; exact tab_len
  refine ⟨bnd q L M, lo', hi', ll', lh', fun ys hy hb2 => bnd_le h ul vl hy (fun k hk => by
    rw [ug, vg]; have := hb2 k hk; have := hb k hk; omega) ok, ?_⟩
  rw [← hlo', ← hhi', ← h.ea, ← h.ec, show (((3 : Nat) : Int)) = p.b from h.eb.symm] at hc
  have fo : ∀ (xs : List Nat) i, i < inn → xs.getD i 0 * st ≤ 255 → TC R Try.prog profile_FineOne_f [.pel (encP p), .int .i64 i, .int .i64 ((nz xs).getD i 0 * q.st)] [] (fun v X => v = .int .i64 (fn1 p i ((xs.getD i 0 * st : Nat))) ∧ X = []) := fun xs i hi hx => by
    rw [nz_get, hst, ← Int.natCast_mul]
    exact fineOne_c p i _ (by unfold Due; rw [h.cl]; exact hi) (h.cv i hi) (by unfold Due; omega)
  have Lb : ∀ o, o < 3 → -65536 ≤ L.getD o 0 ∧ L.getD o 0 ≤ 65536 := fun o ho => by obtain ⟨x, _, e⟩ := ok.la o ho; rw [e]; exact gnode_bd h.g o _
  have Mb : ∀ o, o < 3 → -65536 ≤ M.getD o 0 ∧ M.getD o 0 ≤ 65536 := fun o ho => by obtain ⟨x, _, e⟩ := ok.ma o ho; rw [e]; exact gnode_bd h.g o _
  have eU : tab inn (fun k => fn1 p k ((fr.getD k 0 * st : Nat))) = lo' := by rw [hlo', fu]; exact tab_congr fun i _ => by rw [ug]
  have eV : tab inn (fun k => fn1 p k ((to.getD k 0 * st : Nat))) = hi' := by rw [hhi', fv]; exact tab_congr fun i _ => by rw [vg]
  have lf : (nz fr).length = inn := by rw [nz_len]; exact hf
  have lt : (nz to).length = inn := by rw [nz_len]; exact ht
  refine tc env __inverse_search__bound_s (by rfl) ?_
  dsimp only [__inverse_search__bound_c, srow, encP, encA]
  repeat' (first
    | refine GZp_i_2i_L2iJ ?_ ?_ ?_ ?_ ?_ ?_ ?_ ?_
    | with_reducible first | exact BzZq.mk | refine Tw.ret ?_ | refine ImZq.i fun h => ?_ | refine IkZq.i fun hk => ?_)
  refine Tw.loopK [0, 2, 14] (fun i : Nat => i ≤ inn) (fun i => inn - i) (fun i => [(15, .int .i64 i)]) (fun i => [some (.arr Ei (mixL inn i (fun k => fn1 p k ((fr.getD k 0 * st : Nat))) lo)), some (.arr Ei (mixL inn i (fun k => fn1 p k ((to.getD k 0 * st : Nat))) hi)), some (.arr Ei (nz fr)), some (.arr Ei (nz to)), some (srow p q inn (.sla 1 5 0 inn) far), some (.arr Ei b)])
    ⟨0, by omega, TWk.fcanon env [some 0, some 1, some 2, some 3, some 4, some 5] (by rfl) ?_⟩ (fun i hii => ?_)
  · repeat' (first
      | exact mixL_zero hlo
      | exact mixL_zero hhi
      | with_reducible first | exact Conj.nil | refine Conj.cons rfl ?_ | refine Conj.same ?_ | refine Conj.ask ?_ ?_
      | ((with_reducible refine Due.mk ?_); (first | with_reducible rfl | omega | assumption | decide | ((try simp only [goS] at *) <;> (try intro h) <;> (try intro h') <;> (try simp only [goS] at *) <;> (try simp only [rdi, rd2i, rdL2iJ, Int.toNat_natCast, Nat.add_zero] at *) <;> (try simp only [rng]) <;> (first | assumption | omega)) | (exact due_app0 (by omega)) | (exact due_app (by omega)) | (intros; simp; done) | (intros; simp; omega)))
      | with_reducible refine Due.mk ?_
      | omega)
  have l1 : (mixL inn i (fun k => fn1 p k ((fr.getD k 0 * st : Nat))) lo).length = inn := mixL_len
  have l2 : (mixL inn i (fun k => fn1 p k ((to.getD k 0 * st : Nat))) hi).length = inn := mixL_len
  rcases Nat.lt_or_ge i inn with hi2 | hi2
  · have b1 := hb i hi2
    have f1 := fo fr i hi2 (by omega)
    have f2 := fo to i hi2 (by omega)
    have n1 : (nz fr).getD i 0 * q.st = ((fr.getD i 0 * st : Nat) : Int) := by rw [nz_get, hst, Int.natCast_mul]
    have n2 : (nz to).getD i 0 * q.st = ((to.getD i 0 * st : Nat) : Int) := by rw [nz_get, hst, Int.natCast_mul]
    have s1 : mixL inn (i + 1) (fun k => fn1 p k ((fr.getD k 0 * st : Nat))) lo = (mixL inn i (fun k => fn1 p k ((fr.getD k 0 * st : Nat))) lo).set i (fn1 p i ((fr.getD i 0 * st : Nat))) := mixL_set.symm
    have s2 : mixL inn (i + 1) (fun k => fn1 p k ((to.getD k 0 * st : Nat))) hi = (mixL inn i (fun k => fn1 p k ((to.getD k 0 * st : Nat))) hi).set i (fn1 p i ((to.getD i 0 * st : Nat))) := mixL_set.symm
    have d1 : -9223372036854775808 ≤ (nz fr).getD i 0 * q.st ∧ (nz fr).getD i 0 * q.st ≤ 9223372036854775807 := by omega
    have d2 : -9223372036854775808 ≤ (nz to).getD i 0 * q.st ∧ (nz to).getD i 0 * q.st ≤ 9223372036854775807 := by omega
    repeat' (first
      | ((with_reducible refine TDr.any ?_); refine TDr.callE env (by first | rfl | assumption) (by rfl) (by rfl) ?_ (f1) (by rfl) (by rfl) ?_)
      | ((with_reducible refine TDr.any ?_); refine TDr.callE env (by first | rfl | assumption) (by rfl) (by rfl) ?_ (f2) (by rfl) (by rfl) ?_)
      | exact d1
      | exact d2
      | refine GZy_i_2i_L2iJ (And.intro lf (And.intro lt (And.intro l1 l2))) ?_ ?_ ?_ ?_ ?_ ?_ ?_ ?_
      | with_reducible first | exact BzZq.mk | refine Tw.ret ?_ | refine ImZq.i fun h => ?_ | refine IkZq.i fun hk => ?_)
    refine ⟨i + 1, by omega, by omega, TWk.fcanon env [some 0, some 1, some 2, some 3, some 4, some 5] (by rfl) ?_⟩
    repeat' (first
      | exact s1
      | exact s2
      | with_reducible first | exact Conj.nil | refine Conj.cons rfl ?_ | refine Conj.same ?_ | refine Conj.ask ?_ ?_
      | ((with_reducible refine Due.mk ?_); (first | with_reducible rfl | omega | assumption | decide | ((try simp only [goS] at *) <;> (try intro h) <;> (try intro h') <;> (try simp only [goS] at *) <;> (try simp only [rdi, rd2i, rdL2iJ, Int.toNat_natCast, Nat.add_zero] at *) <;> (try simp only [rng]) <;> (first | assumption | omega)) | (exact due_app0 (by omega)) | (exact due_app (by omega)) | (intros; simp; done) | (intros; simp; omega)))
      | with_reducible refine Due.mk ?_
      | omega)
  obtain rfl : i = inn := by omega
  rw [mixL_all, mixL_all, eU, eV]
  rw [← show cut lo' 0 i = lo' from cut_all ll'.symm, ← show cut hi' 0 i = hi' from cut_all lh'.symm] at hc
  repeat' (first
    | ((with_reducible refine TDr.any ?_); refine TDr.callN env (by first | rfl | assumption) (by rfl) (by rfl) ?_ (hc) (by rfl) (by rfl) ?_)
    | refine GZp_i_2i_L2iJ ?_ ?_ ?_ ?_ ?_ ?_ ?_ ?_
    | with_reducible first | exact BzZq.mk | refine Tw.ret ?_ | refine ImZq.i fun h => ?_ | refine IkZq.i fun hk => ?_)
  clear hc fo
  unfold labOk at hq
  have La := ok.l1
  have Ma := ok.m1
  have lb0 := Lb 0 (by omega)
  have lb1 := Lb 1 (by omega)
  have lb2 := Lb 2 (by omega)
  have mb0 := Mb 0 (by omega)
  have mb1 := Mb 1 (by omega)
  have mb2 := Mb 2 (by omega)
  have sqb : ∀ l t m : Int, -65536 ≤ l ∧ l ≤ 65536 → -65536 ≤ m ∧ m ≤ 65536 → -12800 ≤ t ∧ t ≤ 12800 → 0 ≤ off1 l t m * off1 l t m ∧ off1 l t m * off1 l t m ≤ 100000 * 100000 := fun l t m h1 h2 h3 => sq_bd (k := 100000) (by unfold off1; omega)
  have q0 := sqb (L.getD 0 0) q.tl (M.getD 0 0) lb0 mb0 (by omega)
  have q1 := sqb (L.getD 1 0) q.ta (M.getD 1 0) lb1 mb1 (by omega)
  have q2 := sqb (L.getD 2 0) q.tb (M.getD 2 0) lb2 mb2 (by omega)
  obtain ⟨S, hS⟩ : ∃ S : Nat → Int, S = fun i => if i = 0 then 0 else if i = 1 then off1 (L.getD 0 0) q.tl (M.getD 0 0) * off1 (L.getD 0 0) q.tl (M.getD 0 0) else if i = 2 then off1 (L.getD 0 0) q.tl (M.getD 0 0) * off1 (L.getD 0 0) q.tl (M.getD 0 0) + off1 (L.getD 1 0) q.ta (M.getD 1 0) * off1 (L.getD 1 0) q.ta (M.getD 1 0) else bnd q L M := ⟨_, rfl⟩
  have S0 : S 0 = 0 := by rw [hS]; rfl
  have S1 : S 1 = S 0 + off1 (L.getD 0 0) q.tl (M.getD 0 0) * off1 (L.getD 0 0) q.tl (M.getD 0 0) := by rw [S0, hS, Int.zero_add]; rfl
  have S2 : S 2 = S 1 + off1 (L.getD 1 0) q.ta (M.getD 1 0) * off1 (L.getD 1 0) q.ta (M.getD 1 0) := by rw [S1, S0, hS, Int.zero_add]; rfl
  have S3 : S 3 = S 2 + off1 (L.getD 2 0) q.tb (M.getD 2 0) * off1 (L.getD 2 0) q.tb (M.getD 2 0) := by rw [S2, S1, S0, hS, Int.zero_add]; rfl
  have S4 : S 3 = bnd q L M := by rw [hS]; rfl
  have g0 : -9223372036854775808 ≤ off1 (L.getD 0 0) q.tl (M.getD 0 0) * off1 (L.getD 0 0) q.tl (M.getD 0 0) ∧ off1 (L.getD 0 0) q.tl (M.getD 0 0) * off1 (L.getD 0 0) q.tl (M.getD 0 0) ≤ 9223372036854775807 := by omega
  have g1 : -9223372036854775808 ≤ off1 (L.getD 1 0) q.ta (M.getD 1 0) * off1 (L.getD 1 0) q.ta (M.getD 1 0) ∧ off1 (L.getD 1 0) q.ta (M.getD 1 0) * off1 (L.getD 1 0) q.ta (M.getD 1 0) ≤ 9223372036854775807 := by omega
  have g2 : -9223372036854775808 ≤ off1 (L.getD 2 0) q.tb (M.getD 2 0) * off1 (L.getD 2 0) q.tb (M.getD 2 0) ∧ off1 (L.getD 2 0) q.tb (M.getD 2 0) * off1 (L.getD 2 0) q.tb (M.getD 2 0) ≤ 9223372036854775807 := by omega
  have a0 : -9223372036854775808 ≤ S 0 + off1 (L.getD 0 0) q.tl (M.getD 0 0) * off1 (L.getD 0 0) q.tl (M.getD 0 0) ∧ S 0 + off1 (L.getD 0 0) q.tl (M.getD 0 0) * off1 (L.getD 0 0) q.tl (M.getD 0 0) ≤ 9223372036854775807 := by omega
  have a1 : -9223372036854775808 ≤ S 1 + off1 (L.getD 1 0) q.ta (M.getD 1 0) * off1 (L.getD 1 0) q.ta (M.getD 1 0) ∧ S 1 + off1 (L.getD 1 0) q.ta (M.getD 1 0) * off1 (L.getD 1 0) q.ta (M.getD 1 0) ≤ 9223372036854775807 := by omega
  have a2 : -9223372036854775808 ≤ S 2 + off1 (L.getD 2 0) q.tb (M.getD 2 0) * off1 (L.getD 2 0) q.tb (M.getD 2 0) ∧ S 2 + off1 (L.getD 2 0) q.tb (M.getD 2 0) * off1 (L.getD 2 0) q.tb (M.getD 2 0) ≤ 9223372036854775807 := by omega
  clear sqb q0 q1 q2 hS
  refine Tw.loopK [4, 5, 115] (fun i : Nat => i ≤ 3) (fun i => 3 - i) (fun i => [(116, .int .i64 i), (6, .int .i64 (S i))])
    (fun _ => [some (.arr Ei lo'), some (.arr Ei hi'), some (.arr Ei (nz fr)), some (.arr Ei (nz to)), some (srow p q i (.sla 1 5 0 i) far), some (.arr Ei b), some (.arr Ei L), some (.arr Ei M)])
    ⟨0, by omega, TWk.fcanon env [some 0, some 1, some 2, some 3, some 4, some 5, some 6, some 7] (by rfl) ?_⟩ (fun j hj => ?_)
  · repeat' (first
      | exact S0
      | with_reducible first | exact Conj.nil | refine Conj.cons rfl ?_ | refine Conj.same ?_ | refine Conj.ask ?_ ?_
      | ((with_reducible refine Due.mk ?_); (first | with_reducible rfl | omega | assumption | decide | ((try simp only [goS] at *) <;> (try intro h) <;> (try intro h') <;> (try simp only [goS] at *) <;> (try simp only [rdi, rd2i, rdL2iJ, Int.toNat_natCast, Nat.add_zero] at *) <;> (try simp only [rng]) <;> (first | assumption | omega)) | (exact due_app0 (by omega)) | (exact due_app (by omega)) | (intros; simp; done) | (intros; simp; omega)))
      | with_reducible refine Due.mk ?_
      | omega)
  have hj : j = 0 ∨ j = 1 ∨ j = 2 ∨ j = 3 := by omega
  rcases hj with rfl | rfl | rfl | rfl
  · repeat' (first
      | exact g0
      | exact a0
      | refine GZy_i_2i_L2iJ (And.intro La Ma) ?_ ?_ ?_ ?_ ?_ ?_ ?_ ?_
      | with_reducible first | exact BzZq.mk | refine Tw.ret ?_ | refine ImZq.i fun h => ?_ | refine IkZq.i fun hk => ?_)
    refine ⟨1, by omega, by omega, TWk.fcanon env [some 0, some 1, some 2, some 3, some 4, some 5, some 6, some 7] (by rfl) ?_⟩
    repeat' (first
      | exact S1
      | with_reducible first | exact Conj.nil | refine Conj.cons rfl ?_ | refine Conj.same ?_ | refine Conj.ask ?_ ?_
      | ((with_reducible refine Due.mk ?_); (first | with_reducible rfl | omega | assumption | decide | ((try simp only [goS] at *) <;> (try intro h) <;> (try intro h') <;> (try simp only [goS] at *) <;> (try simp only [rdi, rd2i, rdL2iJ, Int.toNat_natCast, Nat.add_zero] at *) <;> (try simp only [rng]) <;> (first | assumption | omega)) | (exact due_app0 (by omega)) | (exact due_app (by omega)) | (intros; simp; done) | (intros; simp; omega)))
      | with_reducible refine Due.mk ?_
      | omega)
  · repeat' (first
      | exact g1
      | exact a1
      | refine GZy_i_2i_L2iJ (And.intro La Ma) ?_ ?_ ?_ ?_ ?_ ?_ ?_ ?_
      | with_reducible first | exact BzZq.mk | refine Tw.ret ?_ | refine ImZq.i fun h => ?_ | refine IkZq.i fun hk => ?_)
    refine ⟨2, by omega, by omega, TWk.fcanon env [some 0, some 1, some 2, some 3, some 4, some 5, some 6, some 7] (by rfl) ?_⟩
    repeat' (first
      | exact S2
      | with_reducible first | exact Conj.nil | refine Conj.cons rfl ?_ | refine Conj.same ?_ | refine Conj.ask ?_ ?_
      | ((with_reducible refine Due.mk ?_); (first | with_reducible rfl | omega | assumption | decide | ((try simp only [goS] at *) <;> (try intro h) <;> (try intro h') <;> (try simp only [goS] at *) <;> (try simp only [rdi, rd2i, rdL2iJ, Int.toNat_natCast, Nat.add_zero] at *) <;> (try simp only [rng]) <;> (first | assumption | omega)) | (exact due_app0 (by omega)) | (exact due_app (by omega)) | (intros; simp; done) | (intros; simp; omega)))
      | with_reducible refine Due.mk ?_
      | omega)
  · repeat' (first
      | exact g2
      | exact a2
      | refine GZy_i_2i_L2iJ (And.intro La Ma) ?_ ?_ ?_ ?_ ?_ ?_ ?_ ?_
      | with_reducible first | exact BzZq.mk | refine Tw.ret ?_ | refine ImZq.i fun h => ?_ | refine IkZq.i fun hk => ?_)
    refine ⟨3, by omega, by omega, TWk.fcanon env [some 0, some 1, some 2, some 3, some 4, some 5, some 6, some 7] (by rfl) ?_⟩
    repeat' (first
      | exact S3
      | with_reducible first | exact Conj.nil | refine Conj.cons rfl ?_ | refine Conj.same ?_ | refine Conj.ask ?_ ?_
      | ((with_reducible refine Due.mk ?_); (first | with_reducible rfl | omega | assumption | decide | ((try simp only [goS] at *) <;> (try intro h) <;> (try intro h') <;> (try simp only [goS] at *) <;> (try simp only [rdi, rd2i, rdL2iJ, Int.toNat_natCast, Nat.add_zero] at *) <;> (try simp only [rng]) <;> (first | assumption | omega)) | (exact due_app0 (by omega)) | (exact due_app (by omega)) | (intros; simp; done) | (intros; simp; omega)))
      | with_reducible refine Due.mk ?_
      | omega)
  · repeat' (first
      | ((with_reducible refine Tw.retI ?_); refine Tw.gc env [0, 1, 2, 3, 4, 5] [2] (by rfl) (by rfl) ?_ (Tw.ret ?_))
      | refine GZp_i_2i_L2iJ ?_ ?_ ?_ ?_ ?_ ?_ ?_ ?_
      | with_reducible first | exact BzZq.mk | refine Tw.ret ?_ | refine ImZq.i fun h => ?_ | refine IkZq.i fun hk => ?_)
    all_goals
      rw [S4]
      exact ⟨rfl, rfl⟩
end Go.Proofs.Ytkapjajlkpepmaa
namespace Go.Proofs.Ytkapjajlkpepmaa
open Go Go.Lite
set_option linter.unusedVariables false
set_option linter.unusedSimpArgs false
set_option maxRecDepth 100000
set_option maxHeartbeats 4000000

def szN (f : Nat → Nat) : Nat → Nat
  | 0 => 0
  | n + 1 => szN f n + f n
theorem szN_le {f g : Nat → Nat} : ∀ {n : Nat}, (∀ k, k < n → f k ≤ g k) → szN f n ≤ szN g n
  | 0, _ => Nat.le_refl _
  | n + 1, h => Nat.add_le_add (szN_le fun k hk => h k (by omega)) (h n (by omega))
theorem szN_lt {f g : Nat → Nat} {a : Nat} : ∀ {n : Nat}, a < n → (∀ k, k < n → f k ≤ g k) → f a < g a → szN f n < szN g n
  | 0, h, _, _ => by omega
  | n + 1, h, h1, h2 => by
    simp only [szN]
    have h3 := h1 n (by omega)
    by_cases e : a = n
    · subst e
      have := szN_le (n := a) fun k hk => h1 k (by omega)
      omega
    · have := szN_lt (n := n) (by omega) (fun k hk => h1 k (by omega)) h2
      omega
theorem szN_congr {f g : Nat → Nat} {n : Nat} (h : ∀ k, k < n → f k = g k) : szN f n = szN g n := Nat.le_antisymm (szN_le fun k hk => by rw [h k hk]; exact Nat.le_refl _) (szN_le fun k hk => by rw [h k hk]; exact Nat.le_refl _)
theorem nz_set {l : List Nat} {i v : Nat} : (nz l).set i (v : Int) = nz (l.set i v) := by simp [nz, List.map_set]
theorem nset_eq {l : List Nat} {i v : Nat} (h : i < l.length) : (l.set i v).getD i 0 = v := getD_set_eq h
theorem nset_ne {l : List Nat} {i j v : Nat} (h : i ≠ j) : (l.set i v).getD j 0 = l.getD j 0 := getD_set_ne h
/-- The widest axis of a box, among the first i. -/
def wd (fr to : List Nat) : Nat → Nat × Nat
  | 0 => (0, 0)
  | i + 1 => if (wd fr to i).1 < to.getD i 0 - fr.getD i 0 then (to.getD i 0 - fr.getD i 0, i) else wd fr to i
theorem wd_ok (fr to : List Nat) : ∀ i, ((wd fr to i).1 = 0 → (wd fr to i).2 = 0 ∧ ∀ j, j < i → to.getD j 0 - fr.getD j 0 = 0) ∧ (0 < (wd fr to i).1 → (wd fr to i).2 < i ∧ (wd fr to i).1 = to.getD (wd fr to i).2 0 - fr.getD (wd fr to i).2 0)
  | 0 => ⟨fun _ => ⟨rfl, fun j hj => by omega⟩, fun h => by simp [wd] at h⟩
  | i + 1 => by
    have ih := wd_ok fr to i
    simp only [wd]
    by_cases h : (wd fr to i).1 < to.getD i 0 - fr.getD i 0
    · rw [if_pos h]
      exact ⟨fun h2 => by dsimp only at h2; omega, fun _ => ⟨by dsimp only; omega, rfl⟩⟩
    · rw [if_neg h]
      refine ⟨fun h2 => ⟨(ih.1 h2).1, fun j hj => ?_⟩, fun h2 => ⟨by have := (ih.2 h2).1; omega, (ih.2 h2).2⟩⟩
      by_cases e : j = i
      · subst e; omega
      · exact (ih.1 h2).2 j (by omega)
/-- The box whose candidates a search looks at, and the question. -/
structure SBox where
  p : Prf
  q : Ask
  n : Nat
  s : Nat
  st : Nat
  F : Nat → Nat
  T : Nat → Nat
structure SOk (x : SBox) : Prop where
  ok : PrfOk x.p x.n x.s
  lab : labOk x.q.tl x.q.ta x.q.tb
  st : x.q.st = x.st
  tot : 0 ≤ x.q.tot ∧ x.q.tot ≤ 2040
  pos : 0 < x.st
  top : ∀ k, k < x.n → x.T k * x.st ≤ 255
def tsum (n : Nat) (ys : List Nat) : Nat := szN (fun k => ys.getD k 0) n
/-- Tones within a box of steps, of the right sum. -/
def cand (x : SBox) (fr to : Nat → Nat) (ys : List Nat) : Prop := ys.length = x.n ∧ (∀ k, k < x.n → ∃ j, fr k ≤ j ∧ j ≤ to k ∧ ys.getD k 0 = j * x.st) ∧ (tsum x.n ys : Int) ≤ x.q.tot
noncomputable def sdst (x : SBox) (ys : List Nat) : Int := dst x.p x.q x.n x.s ys
/-- What is known of the best candidate. -/
def bestOk (x : SBox) (b : Option (List Nat)) (far : Int) : Prop := match b with
  | none => True
  | some ys => cand x x.F x.T ys ∧ far = sdst x ys
/-- The order of candidates. -/
def prec (n : Nat) (u v : List Nat) : Prop := ∃ k, k < n ∧ (∀ j, j < k → u.getD j 0 = v.getD j 0) ∧ u.getD k 0 < v.getD k 0
theorem prec_self {n : Nat} {u : List Nat} : ¬ prec n u u := fun ⟨_, _, _, h⟩ => Nat.lt_irrefl _ h
theorem prec_trans {n : Nat} {u v w : List Nat} (h : prec n u v) (k : prec n v w) : prec n u w := by
  obtain ⟨a, a1, a2, a3⟩ := h
  obtain ⟨b, b1, b2, b3⟩ := k
  rcases Nat.lt_trichotomy a b with e | e | e
  · exact ⟨a, a1, fun j hj => by rw [a2 j hj, b2 j (by omega)], by rw [← b2 a e]; exact a3⟩
  · subst e
    exact ⟨a, a1, fun j hj => by rw [a2 j hj, b2 j hj], by omega⟩
  · exact ⟨b, b1, fun j hj => by rw [a2 j (by omega), b2 j hj], by rw [a2 b e]; exact b3⟩
theorem prec_asymm {n : Nat} {u v : List Nat} (h : prec n u v) : ¬ prec n v u := fun k => prec_self (prec_trans h k)
theorem prec_total {u v : List Nat} : ∀ {n : Nat}, ¬ prec n u v → (∀ j, j < n → u.getD j 0 = v.getD j 0) ∨ prec n v u
  | 0, _ => .inl fun j hj => by omega
  | n + 1, h => by
    rcases prec_total (n := n) fun ⟨k, a, b, c⟩ => h ⟨k, by omega, b, c⟩ with e | ⟨k, a, b, c⟩
    · rcases Nat.lt_trichotomy (u.getD n 0) (v.getD n 0) with h2 | h2 | h2
      · exact absurd ⟨n, by omega, e, h2⟩ h
      · refine .inl fun j hj => ?_
        by_cases e2 : j = n
        · subst e2; exact h2
        · exact e j (by omega)
      · exact .inr ⟨n, by omega, fun j hj => (e j hj).symm, h2⟩
    · exact .inr ⟨k, by omega, b, c⟩
theorem nprec_trans {n : Nat} {u v w : List Nat} (h : ¬ prec n u v) (k : ¬ prec n v w) : ¬ prec n u w := by
  rintro ⟨a, a1, a2, a3⟩
  rcases prec_total h with e | e
  · exact k ⟨a, a1, fun j hj => by rw [← e j (by omega), a2 j hj], by rw [← e a a1]; exact a3⟩
  · exact k (prec_trans e ⟨a, a1, a2, a3⟩)
theorem nprec_le {n : Nat} {u v : List Nat} (h : ∀ k, k < n → v.getD k 0 ≤ u.getD k 0) : ¬ prec n u v := fun ⟨k, a, _, c⟩ => by have := h k a; omega
/-- The best candidate is not worse than another one. -/
def le2 (n : Nat) (b : Option (List Nat)) (far : Int) (ys : List Nat) (d : Int) : Prop := match b with
  | none => False
  | some z => far < d ∨ (far = d ∧ ¬ prec n ys z)
theorem le2_trans {n : Nat} {b1 b2 : Option (List Nat)} {far1 far2 d : Int} {ys : List Nat} (h : le2 n b1 far1 ys d) (k : ∀ z, b1 = some z → le2 n b2 far2 z far1) : le2 n b2 far2 ys d := by
  cases b1 with
  | none => exact h.elim
  | some z =>
    have k := k z rfl
    cases b2 with
    | none => exact k.elim
    | some w =>
      rcases h with h | ⟨h, h2⟩
      · rcases k with k | ⟨k, k2⟩
        · exact .inl (by omega)
        · exact .inl (by omega)
      · rcases k with k | ⟨k, k2⟩
        · exact .inl (by omega)
        · exact .inr ⟨by omega, nprec_trans h2 k2⟩
theorem sdst_bd {x : SBox} (h : SOk x) {ys : List Nat} (hy : ys.length = x.n ∧ ∀ k, k < x.n → ys.getD k 0 ≤ 255) : 0 ≤ sdst x ys ∧ sdst x ys ≤ 1410720000 := far_bd (pcol_ok h.ok hy) h.lab
theorem cand_255 {x : SBox} (h : SOk x) {fr to : Nat → Nat} (hb : ∀ k, k < x.n → to k ≤ x.T k) {ys : List Nat} (c : cand x fr to ys) : ys.length = x.n ∧ ∀ k, k < x.n → ys.getD k 0 ≤ 255 := ⟨c.1, fun k hk => by
  obtain ⟨j, h1, h2, h3⟩ := c.2.1 k hk
  have := h.top k hk
  have h4 := hb k hk
  have : j * x.st ≤ x.T k * x.st := Nat.mul_le_mul_right _ (by omega)
  omega⟩
/-- A candidate of a box lies in one of its halves. -/
theorem cand_split {x : SBox} {fr to : List Nat} {a m : Nat} (ha : a < x.n) (hf : fr.length = x.n) (ht : to.length = x.n) {ys : List Nat} (c : cand x (fr.getD · 0) (to.getD · 0) ys) :
    cand x (fr.getD · 0) ((to.set a m).getD · 0) ys ∨ cand x ((fr.set a (m + 1)).getD · 0) (to.getD · 0) ys := by
  obtain ⟨c1, c2, c3⟩ := c
  obtain ⟨j, h1, h2, h3⟩ := c2 a ha
  by_cases e : j ≤ m
  · refine .inl ⟨c1, fun k hk => ?_, c3⟩
    by_cases e2 : k = a
    · subst e2; exact ⟨j, h1, by dsimp only; rw [nset_eq (by omega)]; exact e, h3⟩
    · obtain ⟨i, i1, i2, i3⟩ := c2 k hk
      exact ⟨i, i1, by dsimp only; rw [nset_ne (by omega)]; exact i2, i3⟩
  · refine .inr ⟨c1, fun k hk => ?_, c3⟩
    by_cases e2 : k = a
    · subst e2; exact ⟨j, by dsimp only; rw [nset_eq (by omega)]; omega, h2, h3⟩
    · obtain ⟨i, i1, i2, i3⟩ := c2 k hk
      exact ⟨i, by dsimp only; rw [nset_ne (by omega)]; exact i1, i2, i3⟩
theorem cand_sum {x : SBox} {fr to : Nat → Nat} {ys : List Nat} (c : cand x fr to ys) : szN (fun k => fr k * x.st) x.n ≤ tsum x.n ys := szN_le fun k hk => by
  obtain ⟨j, h1, h2, h3⟩ := c.2.1 k hk
  rw [h3]
  exact Nat.mul_le_mul_right _ h1
/-- What a search over a box has done. -/
structure Did (x : SBox) (fr to : List Nat) (b : Option (List Nat)) (far : Int) (b2 : Option (List Nat)) (far2 : Int) : Prop where
  ok : bestOk x b2 far2
  keep : ∀ z, b = some z → le2 x.n b2 far2 z far
  all : ∀ ys, cand x (fr.getD · 0) (to.getD · 0) ys → le2 x.n b2 far2 ys (sdst x ys)
theorem Did.two {x : SBox} {fr to : List Nat} {a m : Nat} {b b1 b2 : Option (List Nat)} {far far1 far2 : Int} (ha : a < x.n) (hf : fr.length = x.n) (ht : to.length = x.n)
    (d1 : Did x fr (to.set a m) b far b1 far1) (d2 : Did x (fr.set a (m + 1)) to b1 far1 b2 far2) : Did x fr to b far b2 far2 where
  ok := d2.ok
  keep := fun z h => le2_trans (d1.keep z h) d2.keep
  all := fun ys c => by
    rcases cand_split (m := m) ha hf ht c with c | c
    · exact le2_trans (d1.all ys c) d2.keep
    · exact d2.all ys c
end Go.Proofs.Ytkapjajlkpepmaa
namespace Go.Proofs.Ytkapjajlkpepmaa
open Go Go.Lite
set_option linter.unusedVariables false
set_option linter.unusedSimpArgs false
set_option maxRecDepth 100000
set_option maxHeartbeats 4000000
-- @simp rdi rd2i rdL2iJ

abbrev rowsS (x : SBox) (lo hi : List Int) (fr to : List Nat) (b : Option (List Nat)) (far : Int) : TH A := match b with
  | none => [some (.arr Ei lo), some (.arr Ei hi), some (.arr Ei (nz fr)), some (.arr Ei (nz to)), some (srow x.p x.q x.n .nils far)]
  | some ys => [some (.arr Ei lo), some (.arr Ei hi), some (.arr Ei (nz fr)), some (.arr Ei (nz to)), some (srow x.p x.q x.n (.sla 1 5 0 x.n) far), some (.arr Ei (nz ys))]
def RunS (x : SBox) (lo hi : List Int) (fr to : List Nat) (b : Option (List Nat)) (far : Int) : Prop :=
  ∃ (lo2 hi2 : List Int) (b2 : Option (List Nat)) (far2 : Int), lo2.length = x.n ∧ hi2.length = x.n ∧ Did x fr to b far b2 far2 ∧
    TC R Try.prog __inverse_search__run_f [.ptr 4 0] (rowsS x lo hi fr to b far) (fun v X => v = .tup [] ∧ X = rowsS x lo2 hi2 fr to b2 far2)
abbrev rowsT (x : SBox) (lo hi : List Int) (fr to zb : List Nat) (nb : Option (List Nat)) (far : Int) : TH A := match nb with
  | none => [some (.arr Ei lo), some (.arr Ei hi), some (.arr Ei (nz fr)), some (.arr Ei (nz to)), some (srow x.p x.q x.n (.sla 1 5 0 x.n) far), some (.arr Ei (nz zb))]
  | some ys => [some (.arr Ei lo), some (.arr Ei hi), some (.arr Ei (nz fr)), some (.arr Ei (nz to)), some (srow x.p x.q x.n (.sla 1 6 0 x.n) far), some (.arr Ei (nz zb)), some (.arr Ei (nz ys))]
/-- The same where a best candidate is known: it stays, or a new one is laid behind. -/
def RunT (x : SBox) (lo hi : List Int) (fr to zb : List Nat) (far : Int) : Prop :=
  ∃ (lo2 hi2 : List Int) (nb : Option (List Nat)) (far2 : Int), lo2.length = x.n ∧ hi2.length = x.n ∧ Did x fr to (some zb) far (some (nb.getD zb)) far2 ∧
    TC R Try.prog __inverse_search__run_f [.ptr 4 0] (rowsS x lo hi fr to (some zb) far) (fun v X => v = .tup [] ∧ X = rowsT x lo2 hi2 fr to zb nb far2)
def RunB (x : SBox) (lo hi : List Int) (fr to : List Nat) (b : Option (List Nat)) (far : Int) : Prop := match b with
  | none => RunS x lo hi fr to none far
  | some zb => RunT x lo hi fr to zb far
/-- The search over each box below a size. -/
def RunIH (x : SBox) (m : Nat) : Prop := ∀ (lo hi : List Int) (fr2 to2 : List Nat) (b : Option (List Nat)) (far : Int), lo.length = x.n → hi.length = x.n → fr2.length = x.n → to2.length = x.n → (∀ k, k < x.n → x.F k ≤ fr2.getD k 0 ∧ fr2.getD k 0 ≤ to2.getD k 0 ∧ to2.getD k 0 ≤ x.T k) →
  szN (fun k => to2.getD k 0 - fr2.getD k 0) x.n < m → bestOk x b far → RunB x lo hi fr2 to2 b far

theorem none_over (x : SBox) (hx : SOk x) (lo hi : List Int) (fr to : List Nat) (far0 : Int) (hf : fr.length = x.n) (ht : to.length = x.n) (hF : ∀ k, k < x.n → x.F k ≤ fr.getD k 0 ∧ fr.getD k 0 ≤ to.getD k 0 ∧ to.getD k 0 ≤ x.T k) (hs : x.q.tot < ((szN (fun k => fr.getD k 0 * x.st) x.n : Nat) : Int)) :
    TC R Try.prog __inverse_search__run_f [.ptr 4 0] (rowsS x lo hi fr to none far0) (fun v X => v = .tup [] ∧ X = rowsS x lo hi fr to none far0) := by
  have gi := hx.ok.g.i1
  have hb : ∀ k, k < x.n → fr.getD k 0 * x.st ≤ 255 ∧ to.getD k 0 * x.st ≤ 255 ∧ fr.getD k 0 ≤ 255 ∧ to.getD k 0 ≤ 255 ∧ fr.getD k 0 ≤ to.getD k 0 := fun k hk => by
    have h1 := hx.top k hk
    have h2 := hF k hk
    have h3 : fr.getD k 0 * x.st ≤ x.T k * x.st := Nat.mul_le_mul_right _ (by omega)
    have h4 : to.getD k 0 * x.st ≤ x.T k * x.st := Nat.mul_le_mul_right _ (by omega)
    have h5 : to.getD k 0 * 1 ≤ to.getD k 0 * x.st := Nat.mul_le_mul_left _ hx.pos
    omega
  have sb : ∀ i, i ≤ x.n → szN (fun k => fr.getD k 0 * x.st) i ≤ 255 * i := fun i => by
    induction i with
    | zero => intro _; exact Nat.le_refl _
    | succ i ihi => intro hi; have := ihi (by omega); have := hb i (by omega); simp only [szN]; omega
  have lf : (nz fr).length = x.n := by rw [nz_len]; exact hf
  have lt : (nz to).length = x.n := by rw [nz_len]; exact ht
  have tot := hx.tot
  refine tc env __inverse_search__run_s (by rfl) ?_
  dsimp only [__inverse_search__run_c, rowsS, srow, encP, encA]
  repeat' (first
    | refine GZp_i_2i_L2iJ ?_ ?_ ?_ ?_ ?_ ?_ ?_ ?_
    | with_reducible first | exact BzZq.mk | refine Tw.ret ?_ | refine ImZq.i fun h => ?_ | refine IkZq.i fun hk => ?_)
  refine Tw.loopK [0, 18] (fun i : Nat => i ≤ x.n) (fun i => x.n - i) (fun i => [(19, .int .i64 i), (2, .int .i64 (szN (fun k => fr.getD k 0 * x.st) i : Nat)), (3, .int .i64 ((wd fr to i).1 : Nat)), (4, .int .i64 ((wd fr to i).2 : Nat))])
    (fun _ => [some (.arr Ei lo), some (.arr Ei hi), some (.arr Ei (nz fr)), some (.arr Ei (nz to)), some (srow x.p x.q x.n .nils far0)]) ⟨0, by omega, TWk.fcanon env [some 0, some 1, some 2, some 3, some 4] (by rfl) ?_⟩ (fun i hii => ?_)
  · repeat' (first
      | with_reducible first | exact Conj.nil | refine Conj.cons rfl ?_ | refine Conj.same ?_ | refine Conj.ask ?_ ?_
      | ((with_reducible refine Due.mk ?_); (first | with_reducible rfl | omega | assumption | decide | ((try simp only [goS] at *) <;> (try intro h) <;> (try intro h') <;> (try simp only [goS] at *) <;> (try simp only [rdi, rd2i, rdL2iJ, Int.toNat_natCast, Nat.add_zero] at *) <;> (try simp only [rng]) <;> (first | assumption | omega)) | (exact due_app0 (by omega)) | (exact due_app (by omega)) | (intros; simp; done) | (intros; simp; omega)))
      | with_reducible refine Due.mk ?_
      | omega)
  rcases Nat.lt_or_ge i x.n with hiq | hiq
  · have b1 := hb i hiq
    have b2 := sb (i + 1) (by omega)
    have b3 := sb i (by omega)
    have n1 : (nz fr).getD i 0 * x.q.st = ((fr.getD i 0 * x.st : Nat) : Int) := by rw [nz_get, hx.st, Int.natCast_mul]
    have n2 : (nz fr).getD i 0 = ((fr.getD i 0 : Nat) : Int) := nz_get
    have n3 : (nz to).getD i 0 = ((to.getD i 0 : Nat) : Int) := nz_get
    have d1 : -9223372036854775808 ≤ (nz fr).getD i 0 * x.q.st ∧ (nz fr).getD i 0 * x.q.st ≤ 9223372036854775807 := by rw [n1]; omega
    have e1 : szN (fun k => fr.getD k 0 * x.st) (i + 1) = szN (fun k => fr.getD k 0 * x.st) i + fr.getD i 0 * x.st := rfl
    have d2 : -9223372036854775808 ≤ ((szN (fun k => fr.getD k 0 * x.st) i : Nat) : Int) + (nz fr).getD i 0 * x.q.st ∧ ((szN (fun k => fr.getD k 0 * x.st) i : Nat) : Int) + (nz fr).getD i 0 * x.q.st ≤ 9223372036854775807 := by rw [n1]; omega
    have d3 : -9223372036854775808 ≤ (nz to).getD i 0 - (nz fr).getD i 0 ∧ (nz to).getD i 0 - (nz fr).getD i 0 ≤ 9223372036854775807 := by rw [n2, n3]; omega
    have e2 : ((szN (fun k => fr.getD k 0 * x.st) (i + 1) : Nat) : Int) = ((szN (fun k => fr.getD k 0 * x.st) i : Nat) : Int) + (nz fr).getD i 0 * x.q.st := by rw [n1, e1]; omega
    by_cases hw : (wd fr to i).1 < to.getD i 0 - fr.getD i 0
    · have w1 : wd fr to (i + 1) = (to.getD i 0 - fr.getD i 0, i) := by simp only [wd]; rw [if_pos hw]
      have w2 : (((wd fr to (i + 1)).1 : Nat) : Int) = (nz to).getD i 0 - (nz fr).getD i 0 := by rw [w1, n2, n3]; dsimp only; omega
      have w3 : (((wd fr to (i + 1)).2 : Nat) : Int) = (i : Int) := by rw [w1]
      have hw2 : (((wd fr to i).1 : Nat) : Int) < (nz to).getD i 0 - (nz fr).getD i 0 := by rw [n2, n3]; omega
      repeat' (first
        | exact d1
        | exact d2
        | exact d3
        | refine GZy_i_2i_L2iJ (And.intro lf lt) ?_ ?_ ?_ ?_ ?_ ?_ ?_ ?_
        | with_reducible first | exact BzZq.mk | refine Tw.ret ?_ | refine ImZq.i fun h => ?_ | refine IkZq.i fun hk => ?_)
      refine ⟨i + 1, by omega, by omega, TWk.fcanon env [some 0, some 1, some 2, some 3, some 4] (by rfl) ?_⟩
      repeat' (first
        | exact e2
        | exact w2
        | exact w3
        | with_reducible first | exact Conj.nil | refine Conj.cons rfl ?_ | refine Conj.same ?_ | refine Conj.ask ?_ ?_
        | ((with_reducible refine Due.mk ?_); (first | with_reducible rfl | omega | assumption | decide | ((try simp only [goS] at *) <;> (try intro h) <;> (try intro h') <;> (try simp only [goS] at *) <;> (try simp only [rdi, rd2i, rdL2iJ, Int.toNat_natCast, Nat.add_zero] at *) <;> (try simp only [rng]) <;> (first | assumption | omega)) | (exact due_app0 (by omega)) | (exact due_app (by omega)) | (intros; simp; done) | (intros; simp; omega)))
        | with_reducible refine Due.mk ?_
        | omega)
    · have w1 : wd fr to (i + 1) = wd fr to i := by simp only [wd]; rw [if_neg hw]
      have w2 : (((wd fr to (i + 1)).1 : Nat) : Int) = (((wd fr to i).1 : Nat) : Int) := by rw [w1]
      have w3 : (((wd fr to (i + 1)).2 : Nat) : Int) = (((wd fr to i).2 : Nat) : Int) := by rw [w1]
      have hw2 : ¬ (((wd fr to i).1 : Nat) : Int) < (nz to).getD i 0 - (nz fr).getD i 0 := by rw [n2, n3]; omega
      repeat' (first
        | exact d1
        | exact d2
        | exact d3
        | refine GZy_i_2i_L2iJ (And.intro lf lt) ?_ ?_ ?_ ?_ ?_ ?_ ?_ ?_
        | with_reducible first | exact BzZq.mk | refine Tw.ret ?_ | refine ImZq.i fun h => ?_ | refine IkZq.i fun hk => ?_)
      refine ⟨i + 1, by omega, by omega, TWk.fcanon env [some 0, some 1, some 2, some 3, some 4] (by rfl) ?_⟩
      repeat' (first
        | exact e2
        | exact w2
        | exact w3
        | with_reducible first | exact Conj.nil | refine Conj.cons rfl ?_ | refine Conj.same ?_ | refine Conj.ask ?_ ?_
        | ((with_reducible refine Due.mk ?_); (first | with_reducible rfl | omega | assumption | decide | ((try simp only [goS] at *) <;> (try intro h) <;> (try intro h') <;> (try simp only [goS] at *) <;> (try simp only [rdi, rd2i, rdL2iJ, Int.toNat_natCast, Nat.add_zero] at *) <;> (try simp only [rng]) <;> (first | assumption | omega)) | (exact due_app0 (by omega)) | (exact due_app (by omega)) | (intros; simp; done) | (intros; simp; omega)))
        | with_reducible refine Due.mk ?_
        | omega)
  obtain rfl : i = x.n := by omega
  repeat' (first
    | refine GZp_i_2i_L2iJ ?_ ?_ ?_ ?_ ?_ ?_ ?_ ?_
    | with_reducible first | exact BzZq.mk | refine Tw.ret ?_ | refine ImZq.i fun h => ?_ | refine IkZq.i fun hk => ?_)
  exact ⟨rfl, rfl⟩
theorem none_leaf (x : SBox) (hx : SOk x) (lo hi : List Int) (fr to : List Nat) (far0 : Int) (hf : fr.length = x.n) (ht : to.length = x.n) (hF : ∀ k, k < x.n → x.F k ≤ fr.getD k 0 ∧ fr.getD k 0 ≤ to.getD k 0 ∧ to.getD k 0 ≤ x.T k) (hs : ¬ x.q.tot < ((szN (fun k => fr.getD k 0 * x.st) x.n : Nat) : Int)) (hW : (wd fr to x.n).1 = 0) (hA : (wd fr to x.n).2 = 0) (ys : List Nat) (hys : ys = mulL x.st fr) :
    TC R Try.prog __inverse_search__run_f [.ptr 4 0] (rowsS x lo hi fr to none far0) (fun v X => v = .tup [] ∧ X = rowsS x lo hi fr to (some ys) (sdst x ys)) := by
  have gi := hx.ok.g.i1
  have hb : ∀ k, k < x.n → fr.getD k 0 * x.st ≤ 255 ∧ to.getD k 0 * x.st ≤ 255 ∧ fr.getD k 0 ≤ 255 ∧ to.getD k 0 ≤ 255 ∧ fr.getD k 0 ≤ to.getD k 0 := fun k hk => by
    have h1 := hx.top k hk
    have h2 := hF k hk
    have h3 : fr.getD k 0 * x.st ≤ x.T k * x.st := Nat.mul_le_mul_right _ (by omega)
    have h4 : to.getD k 0 * x.st ≤ x.T k * x.st := Nat.mul_le_mul_right _ (by omega)
    have h5 : to.getD k 0 * 1 ≤ to.getD k 0 * x.st := Nat.mul_le_mul_left _ hx.pos
    omega
  have sb : ∀ i, i ≤ x.n → szN (fun k => fr.getD k 0 * x.st) i ≤ 255 * i := fun i => by
    induction i with
    | zero => intro _; exact Nat.le_refl _
    | succ i ihi => intro hi; have := ihi (by omega); have := hb i (by omega); simp only [szN]; omega
  have lf : (nz fr).length = x.n := by rw [nz_len]; exact hf
  have lt : (nz to).length = x.n := by rw [nz_len]; exact ht
  have tot := hx.tot
  have yl : ys.length = x.n := by rw [hys, mulL_len, hf]
  have yg : ∀ k, ys.getD k 0 = fr.getD k 0 * x.st := fun k => by rw [hys, mulL_get]
  have yb : ys.length = x.n ∧ ∀ k, k < x.n → ys.getD k 0 ≤ 255 := ⟨yl, fun k hk => by rw [yg]; exact (hb k hk).1⟩
  have qc := pquick_c x.p x.n x.s ys hx.ok yb
  have fc := far_c _ _ _ _ _ _ (pcol_ok hx.ok yb) hx.lab
  rw [show far (pcol x.p x.n x.s ys 0) (pcol x.p x.n x.s ys 1) (pcol x.p x.n x.s ys 2) x.q.tl x.q.ta x.q.tb = sdst x ys from rfl] at fc
  have db := sdst_bd hx yb
  have lY : (nz ys).length = x.n := by rw [nz_len]; exact yl
  have eY : tab x.n (fun k => (nz fr).getD k 0 * x.q.st) = nz ys := (is_tab 0 lY fun k _ => by rw [nz_get, nz_get, yg, hx.st, Int.natCast_mul]).symm
  rw [← show cut (nz ys) 0 x.n = nz ys from cut_all lY.symm] at qc
  refine tc env __inverse_search__run_s (by rfl) ?_
  dsimp only [__inverse_search__run_c, rowsS, srow, encP, encA]
  repeat' (first
    | refine GZp_i_2i_L2iJ ?_ ?_ ?_ ?_ ?_ ?_ ?_ ?_
    | with_reducible first | exact BzZq.mk | refine Tw.ret ?_ | refine ImZq.i fun h => ?_ | refine IkZq.i fun hk => ?_)
  refine Tw.loopK [0, 18] (fun i : Nat => i ≤ x.n) (fun i => x.n - i) (fun i => [(19, .int .i64 i), (2, .int .i64 (szN (fun k => fr.getD k 0 * x.st) i : Nat)), (3, .int .i64 ((wd fr to i).1 : Nat)), (4, .int .i64 ((wd fr to i).2 : Nat))])
    (fun _ => [some (.arr Ei lo), some (.arr Ei hi), some (.arr Ei (nz fr)), some (.arr Ei (nz to)), some (srow x.p x.q x.n .nils far0)]) ⟨0, by omega, TWk.fcanon env [some 0, some 1, some 2, some 3, some 4] (by rfl) ?_⟩ (fun i hii => ?_)
  · repeat' (first
      | with_reducible first | exact Conj.nil | refine Conj.cons rfl ?_ | refine Conj.same ?_ | refine Conj.ask ?_ ?_
      | ((with_reducible refine Due.mk ?_); (first | with_reducible rfl | omega | assumption | decide | ((try simp only [goS] at *) <;> (try intro h) <;> (try intro h') <;> (try simp only [goS] at *) <;> (try simp only [rdi, rd2i, rdL2iJ, Int.toNat_natCast, Nat.add_zero] at *) <;> (try simp only [rng]) <;> (first | assumption | omega)) | (exact due_app0 (by omega)) | (exact due_app (by omega)) | (intros; simp; done) | (intros; simp; omega)))
      | with_reducible refine Due.mk ?_
      | omega)
  rcases Nat.lt_or_ge i x.n with hiq | hiq
  · have b1 := hb i hiq
    have b2 := sb (i + 1) (by omega)
    have b3 := sb i (by omega)
    have n1 : (nz fr).getD i 0 * x.q.st = ((fr.getD i 0 * x.st : Nat) : Int) := by rw [nz_get, hx.st, Int.natCast_mul]
    have n2 : (nz fr).getD i 0 = ((fr.getD i 0 : Nat) : Int) := nz_get
    have n3 : (nz to).getD i 0 = ((to.getD i 0 : Nat) : Int) := nz_get
    have d1 : -9223372036854775808 ≤ (nz fr).getD i 0 * x.q.st ∧ (nz fr).getD i 0 * x.q.st ≤ 9223372036854775807 := by rw [n1]; omega
    have e1 : szN (fun k => fr.getD k 0 * x.st) (i + 1) = szN (fun k => fr.getD k 0 * x.st) i + fr.getD i 0 * x.st := rfl
    have d2 : -9223372036854775808 ≤ ((szN (fun k => fr.getD k 0 * x.st) i : Nat) : Int) + (nz fr).getD i 0 * x.q.st ∧ ((szN (fun k => fr.getD k 0 * x.st) i : Nat) : Int) + (nz fr).getD i 0 * x.q.st ≤ 9223372036854775807 := by rw [n1]; omega
    have d3 : -9223372036854775808 ≤ (nz to).getD i 0 - (nz fr).getD i 0 ∧ (nz to).getD i 0 - (nz fr).getD i 0 ≤ 9223372036854775807 := by rw [n2, n3]; omega
    have e2 : ((szN (fun k => fr.getD k 0 * x.st) (i + 1) : Nat) : Int) = ((szN (fun k => fr.getD k 0 * x.st) i : Nat) : Int) + (nz fr).getD i 0 * x.q.st := by rw [n1, e1]; omega
    by_cases hw : (wd fr to i).1 < to.getD i 0 - fr.getD i 0
    · have w1 : wd fr to (i + 1) = (to.getD i 0 - fr.getD i 0, i) := by simp only [wd]; rw [if_pos hw]
      have w2 : (((wd fr to (i + 1)).1 : Nat) : Int) = (nz to).getD i 0 - (nz fr).getD i 0 := by rw [w1, n2, n3]; dsimp only; omega
      have w3 : (((wd fr to (i + 1)).2 : Nat) : Int) = (i : Int) := by rw [w1]
      have hw2 : (((wd fr to i).1 : Nat) : Int) < (nz to).getD i 0 - (nz fr).getD i 0 := by rw [n2, n3]; omega
      repeat' (first
        | exact d1
        | exact d2
        | exact d3
        | refine GZy_i_2i_L2iJ (And.intro lf lt) ?_ ?_ ?_ ?_ ?_ ?_ ?_ ?_
        | with_reducible first | exact BzZq.mk | refine Tw.ret ?_ | refine ImZq.i fun h => ?_ | refine IkZq.i fun hk => ?_)
      refine ⟨i + 1, by omega, by omega, TWk.fcanon env [some 0, some 1, some 2, some 3, some 4] (by rfl) ?_⟩
      repeat' (first
        | exact e2
        | exact w2
        | exact w3
        | with_reducible first | exact Conj.nil | refine Conj.cons rfl ?_ | refine Conj.same ?_ | refine Conj.ask ?_ ?_
        | ((with_reducible refine Due.mk ?_); (first | with_reducible rfl | omega | assumption | decide | ((try simp only [goS] at *) <;> (try intro h) <;> (try intro h') <;> (try simp only [goS] at *) <;> (try simp only [rdi, rd2i, rdL2iJ, Int.toNat_natCast, Nat.add_zero] at *) <;> (try simp only [rng]) <;> (first | assumption | omega)) | (exact due_app0 (by omega)) | (exact due_app (by omega)) | (intros; simp; done) | (intros; simp; omega)))
        | with_reducible refine Due.mk ?_
        | omega)
    · have w1 : wd fr to (i + 1) = wd fr to i := by simp only [wd]; rw [if_neg hw]
      have w2 : (((wd fr to (i + 1)).1 : Nat) : Int) = (((wd fr to i).1 : Nat) : Int) := by rw [w1]
      have w3 : (((wd fr to (i + 1)).2 : Nat) : Int) = (((wd fr to i).2 : Nat) : Int) := by rw [w1]
      have hw2 : ¬ (((wd fr to i).1 : Nat) : Int) < (nz to).getD i 0 - (nz fr).getD i 0 := by rw [n2, n3]; omega
      repeat' (first
        | exact d1
        | exact d2
        | exact d3
        | refine GZy_i_2i_L2iJ (And.intro lf lt) ?_ ?_ ?_ ?_ ?_ ?_ ?_ ?_
        | with_reducible first | exact BzZq.mk | refine Tw.ret ?_ | refine ImZq.i fun h => ?_ | refine IkZq.i fun hk => ?_)
      refine ⟨i + 1, by omega, by omega, TWk.fcanon env [some 0, some 1, some 2, some 3, some 4] (by rfl) ?_⟩
      repeat' (first
        | exact e2
        | exact w2
        | exact w3
        | with_reducible first | exact Conj.nil | refine Conj.cons rfl ?_ | refine Conj.same ?_ | refine Conj.ask ?_ ?_
        | ((with_reducible refine Due.mk ?_); (first | with_reducible rfl | omega | assumption | decide | ((try simp only [goS] at *) <;> (try intro h) <;> (try intro h') <;> (try simp only [goS] at *) <;> (try simp only [rdi, rd2i, rdL2iJ, Int.toNat_natCast, Nat.add_zero] at *) <;> (try simp only [rng]) <;> (first | assumption | omega)) | (exact due_app0 (by omega)) | (exact due_app (by omega)) | (intros; simp; done) | (intros; simp; omega)))
        | with_reducible refine Due.mk ?_
        | omega)
  obtain rfl : i = x.n := by omega
  rw [hW, hA]
  repeat' (first
    | refine GZp_i_2i_L2iJ ?_ ?_ ?_ ?_ ?_ ?_ ?_ ?_
    | with_reducible first | exact BzZq.mk | refine Tw.ret ?_ | refine ImZq.i fun h => ?_ | refine IkZq.i fun hk => ?_)
  rw [Int.toNat_natCast]
  refine Tw.loopK [0, 8, 106, 107] (fun i : Nat => i ≤ x.n) (fun i => x.n - i) (fun i => [(108, .int .i64 i)])
    (fun i => [some (.arr Ei lo), some (.arr Ei hi), some (.arr Ei (nz fr)), some (.arr Ei (nz to)), some (srow x.p x.q x.n .nils far0), some (.arr Ei (ptab x.n i fun k => (nz fr).getD k 0 * x.q.st))]) ⟨0, by omega, TWk.fcanon env [some 0, some 1, some 2, some 3, some 4, some 5] (by rfl) ?_⟩ (fun i hii2 => ?_)
  · repeat' (first
      | exact ptab_zero
      | with_reducible first | exact Conj.nil | refine Conj.cons rfl ?_ | refine Conj.same ?_ | refine Conj.ask ?_ ?_
      | ((with_reducible refine Due.mk ?_); (first | with_reducible rfl | omega | assumption | decide | ((try simp only [goS] at *) <;> (try intro h) <;> (try intro h') <;> (try simp only [goS] at *) <;> (try simp only [rdi, rd2i, rdL2iJ, Int.toNat_natCast, Nat.add_zero] at *) <;> (try simp only [rng]) <;> (first | assumption | omega)) | (exact due_app0 (by omega)) | (exact due_app (by omega)) | (intros; simp; done) | (intros; simp; omega)))
      | with_reducible refine Due.mk ?_
      | omega)
  have pl : (ptab x.n i fun k => (nz fr).getD k 0 * x.q.st).length = x.n := ptab_len
  rcases Nat.lt_or_ge i x.n with hi3 | hi3
  · have b1 := hb i hi3
    have n1 : (nz fr).getD i 0 * x.q.st = ((fr.getD i 0 * x.st : Nat) : Int) := by rw [nz_get, hx.st, Int.natCast_mul]
    have d1 : -9223372036854775808 ≤ (nz fr).getD i 0 * x.q.st ∧ (nz fr).getD i 0 * x.q.st ≤ 9223372036854775807 := by rw [n1]; omega
    have ps : ptab x.n (i + 1) (fun k => (nz fr).getD k 0 * x.q.st) = (ptab x.n i fun k => (nz fr).getD k 0 * x.q.st).set i ((nz fr).getD i 0 * x.q.st) := (ptab_set (f := fun k => (nz fr).getD k 0 * x.q.st)).symm
    repeat' (first
      | exact d1
      | refine GZy_i_2i_L2iJ (And.intro lf (And.intro lt pl)) ?_ ?_ ?_ ?_ ?_ ?_ ?_ ?_
      | with_reducible first | exact BzZq.mk | refine Tw.ret ?_ | refine ImZq.i fun h => ?_ | refine IkZq.i fun hk => ?_)
    refine ⟨i + 1, by omega, by omega, TWk.fcanon env [some 0, some 1, some 2, some 3, some 4, some 5] (by rfl) ?_⟩
    repeat' (first
      | exact ps
      | with_reducible first | exact Conj.nil | refine Conj.cons rfl ?_ | refine Conj.same ?_ | refine Conj.ask ?_ ?_
      | ((with_reducible refine Due.mk ?_); (first | with_reducible rfl | omega | assumption | decide | ((try simp only [goS] at *) <;> (try intro h) <;> (try intro h') <;> (try simp only [goS] at *) <;> (try simp only [rdi, rd2i, rdL2iJ, Int.toNat_natCast, Nat.add_zero] at *) <;> (try simp only [rng]) <;> (first | assumption | omega)) | (exact due_app0 (by omega)) | (exact due_app (by omega)) | (intros; simp; done) | (intros; simp; omega)))
      | with_reducible refine Due.mk ?_
      | omega)
  have ei : i = x.n := by omega
  rw [ei, ptab_all, eY]
  repeat' (first
    | ((with_reducible refine TDr.any ?_); refine TDr.callE env (by first | rfl | assumption) (by rfl) (by rfl) ?_ (qc) (by rfl) (by rfl) ?_)
    | ((with_reducible refine TDr.any ?_); refine TDr.callE env (by first | rfl | assumption) (by rfl) (by rfl) ?_ (fc) (by rfl) (by rfl) ?_)
    | refine GZp_i_2i_L2iJ ?_ ?_ ?_ ?_ ?_ ?_ ?_ ?_
    | with_reducible first | exact BzZq.mk | refine Tw.ret ?_ | refine ImZq.i fun h => ?_ | refine IkZq.i fun hk => ?_)
  all_goals first | exact ⟨rfl, rfl⟩ | (intro h'; simp at h')
end Go.Proofs.Ytkapjajlkpepmaa
