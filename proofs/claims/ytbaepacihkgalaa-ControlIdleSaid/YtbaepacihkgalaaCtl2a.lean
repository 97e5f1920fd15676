/- Controllers: a sheet is read, and the press is corrected. -/
import Derived.Test.YtbaepacihkgalaaCtl1
namespace Go.Proofs.Ytbaepacihkgalaa
open Go Go.Lite
set_option linter.unusedVariables false
set_option linter.unusedSimpArgs false
set_option maxRecDepth 100000
set_option maxHeartbeats 100000000
-- @long8
-- @simp rdi rd6i rdLiJ rd2i

def kyN (S : Su) (ks : Nat → List Int) (fm : List (List Int)) (i z : Nat) : Int := max 0 (min 1000 ((ks i).getD z 0 + near ((S.tg.getD i 0 - (fm.getD i []).getD z 0) * (8 + (S.ld.getD i []).getD z 0)) 128))
theorem kyN_in {S : Su} {ks : Nat → List Int} {fm : List (List Int)} {i z : Nat} : 0 ≤ kyN S ks fm i z ∧ kyN S ks fm i z ≤ 1000 := by unfold kyN; omega
/-- The keys of a unit when z zones are done. -/
def kzL (S : Su) (ks : Nat → List Int) (fm : List (List Int)) (i : Nat) : Nat → List Int
  | 0 => ks i
  | z + 1 => (kzL S ks fm i z).set z (kyN S ks fm i z)
/-- The events of these zones. -/
def fzE (S : Su) (ks : Nat → List Int) (fm : List (List Int)) (n : Int) (i : Nat) : Nat → List Ev
  | 0 => []
  | z + 1 => if kyN S ks fm i z = (ks i).getD z 0 then fzE S ks fm n i z else fzE S ks fm n i z ++ [(n + 1 + 1, 1, (i : Int), (z : Int), kyN S ks fm i z, 0)]
def kdn (S : Su) (c : Ct) (fm : List (List Int)) (i : Nat) : List Int := if rem (c.n + 1) c.ci = 0 then kzL S c.ks fm i S.Z else c.ks i
def jmE (S : Su) (c : Ct) (sh : List (Int × Int)) (i : Nat) : List Ev := if rem (c.n + 1) c.cr = 0 ∧ ¬ ((sh.getD i (0, 0)).1 = 0 ∧ (sh.getD i (0, 0)).2 = 0) then [(c.n + 1 + 1, 4, (i : Int), 0, -(sh.getD i (0, 0)).1, -(sh.getD i (0, 0)).2)] else []
def kyE (S : Su) (c : Ct) (fm : List (List Int)) (i : Nat) : List Ev := if rem (c.n + 1) c.ci = 0 then fzE S c.ks fm c.n i S.Z else []
/-- The events of the first units. -/
def feE (S : Su) (c : Ct) (sh : List (Int × Int)) (fm : List (List Int)) : Nat → List Ev
  | 0 => []
  | i + 1 => feE S c sh fm i ++ kyE S c fm i ++ jmE S c sh i
def keK (S : Su) (c : Ct) (fm : List (List Int)) (i j : Nat) : List Int := if j < i then kdn S c fm j else c.ks j
def keJ (S : Su) (c : Ct) (fm : List (List Int)) (i z j : Nat) : List Int := if j < i then kdn S c fm j else if j = i then kzL S c.ks fm j z else c.ks j
theorem keJ_end {S : Su} {c : Ct} {fm : List (List Int)} {i : Nat} (h : rem (c.n + 1) c.ci = 0) : keJ S c fm i S.Z = keK S c fm (i + 1) := by
  funext j
  unfold keJ keK
  by_cases h1 : j < i
  · rw [if_pos h1, if_pos (by omega)]
  · rw [if_neg h1]
    by_cases h2 : j = i
    · rw [if_pos h2, if_pos (by omega)]; unfold kdn; rw [if_pos h]
    · rw [if_neg h2, if_neg (by omega)]
theorem kzL_len {S : Su} {ks : Nat → List Int} {fm : List (List Int)} {i : Nat} : ∀ z, (kzL S ks fm i z).length = (ks i).length
  | 0 => rfl
  | z + 1 => by rw [kzL, List.length_set]; exact kzL_len z
theorem kzL_at {S : Su} {ks : Nat → List Int} {fm : List (List Int)} {i y : Nat} : ∀ z, z ≤ y → (kzL S ks fm i z).getD y 0 = (ks i).getD y 0
  | 0, _ => rfl
  | z + 1, h => by rw [kzL, getD_set_ne (by omega)]; exact kzL_at z (by omega)
theorem set_same {l : List Int} {z : Nat} {v : Int} (h : l.getD z 0 = v) (hz : z < l.length) : l.set z v = l := by
  refine List.ext_getElem (by simp) fun j h1 h2 => ?_
  by_cases e : z = j
  · subst e
    rw [List.getElem_set_self, ← h, List.getD_eq_getElem?_getD, List.getElem?_eq_getElem hz]; rfl
  · rw [List.getElem_set_ne e]
theorem fzE_len {S : Su} {ks : Nat → List Int} {fm : List (List Int)} {n : Int} {i : Nat} : ∀ z, (fzE S ks fm n i z).length ≤ z
  | 0 => Nat.le_refl _
  | z + 1 => by
    have := fzE_len (S := S) (ks := ks) (fm := fm) (n := n) (i := i) z
    unfold fzE
    split
    · omega
    · rw [List.length_append]; simp; omega
theorem feE_len {S : Su} {c : Ct} {sh : List (Int × Int)} {fm : List (List Int)} : ∀ i, (feE S c sh fm i).length ≤ i * (S.Z + 1)
  | 0 => by simp [feE]
  | i + 1 => by
    have := feE_len (S := S) (c := c) (sh := sh) (fm := fm) i
    have h2 := fzE_len (S := S) (ks := c.ks) (fm := fm) (n := c.n) (i := i) S.Z
    have h3 : (kyE S c fm i).length ≤ S.Z := by unfold kyE; split; exact h2; simp
    have h4 : (jmE S c sh i).length ≤ 1 := by unfold jmE; split <;> simp
    rw [feE, List.length_append, List.length_append, Nat.add_mul]
    omega
structure CtOk (S : Su) (u : Nat) (c : Ct) : Prop where
  ci : 1 ≤ c.ci ∧ c.ci ≤ 4000
  cr : 1 ≤ c.cr ∧ c.cr ≤ 4000
  n : 0 ≤ c.n ∧ c.n ≤ 4000
  kl : ∀ i, i < u → (c.ks i).length = S.Z
  k : ∀ i, i < u → ∀ z, z < S.Z → 0 ≤ (c.ks i).getD z 0 ∧ (c.ks i).getD z 0 ≤ 1000
theorem len_cut (X Y : List Ev) : (cut X 0 X.length ++ Y).length = X.length + Y.length := by rw [List.length_append, cut_all rfl]
theorem apd (n : Nat) (v : Ev) (h : n ≤ 1000) : (n + (cut [v] 0 1).length) * 48 ≤ 140737488355328 ∧ n + (cut [v] 0 1).length ≤ 140737488355328 := by
  have : (cut [v] 0 1).length = 1 := rfl
  omega
def cfeed_c_P (n8 : Nat) : Prop := ∀ (S : Su) (u : Nat) (c : Ct) (st dr : Int) (sh : List (Int × Int)) (fm : List (List Int)) (so : SuOk S u) (ck : CtOk S u c) (hn : Due (c.n < 3999)) (ok : RcOk S u sh fm) (e8 : u = n8), TC R Try.prog __control_Controller__Feed_f [.ptr 0 0, .agg [.int .i64 (c.n + 1), .int .i64 st, .lst E2i sh, .lst ELiJ fm, .int .i64 dr]] (ctR S u c) (fun v X => v = .tup [.sla 6 (u + 2) 0 (feE S c sh fm u).length, .int .i64 0] ∧ X = ctR S u { c with n := c.n + 1, ks := keK S c fm u } ++ [some (.arr E6i (feE S c sh fm u))])
structure HideP (G : Prop) : Prop where
  out : G
theorem cfeed_c_R {Goal : Prop} (hR : Goal := by
    have b := below (i := i) (u := w) ⟨hi, by omega⟩
    obtain ⟨j, ej⟩ : ∃ j, j = i := ⟨_, rfl⟩
    have klj := kl i (by omega)
    have fz := (ok.f i hi).1
    have fv := (ok.f i hi).2
    have kv := ck.k i hi
    have lv := (so.l i (by omega))
    have tv := so.t i (by omega)
    have sv := ok.s i hi
    clear ok ck so kl
    have fz' : (fm.getD i (R.d ELiJ)).length = S.Z := fz
    have lz' : (S.ld.getD i (R.d ELiJ)).length = S.Z := lv.1
    have prb : ∀ z, z < S.Z → -400000 ≤ ((S.tg.getD i 0 - (fm.getD i []).getD z 0) * (8 + (S.ld.getD i []).getD z 0)) ∧ ((S.tg.getD i 0 - (fm.getD i []).getD z 0) * (8 + (S.ld.getD i []).getD z 0)) ≤ 400000 := fun z hz => by
      have h1 := fv z hz
      have h2 := lv.2 z hz
      generalize (fm.getD i []).getD z 0 = x1 at *
      generalize (S.ld.getD i []).getD z 0 = x2 at *
      generalize S.tg.getD i 0 = x3 at *
      have h3 : (x3 - x1) * (8 + x2) ≤ 24000 * (8 + x2) := Int.mul_le_mul_of_nonneg_right (by omega) (by omega)
      have h4 : (-24000) * (8 + x2) ≤ (x3 - x1) * (8 + x2) := Int.mul_le_mul_of_nonneg_right (by omega) (by omega)
      omega
    have pb : ∀ z, z < S.Z → -9223372036854775808 ≤ ((S.tg.getD i 0 - (fm.getD i []).getD z 0) * (8 + (S.ld.getD i []).getD z 0)) ∧ ((S.tg.getD i 0 - (fm.getD i []).getD z 0) * (8 + (S.ld.getD i []).getD z 0)) ≤ 9223372036854775807 := fun z hz => by have := prb z hz; omega
    have nr := fun z (hz : z < S.Z) => nearest_c ((S.tg.getD i 0 - (fm.getD i []).getD z 0) * (8 + (S.ld.getD i []).getD z 0)) 128 (by have := prb z hz; dsimp only [Due]; omega)
    have nb : ∀ z, z < S.Z → -9223372036854775808 ≤ (kzL S c.ks fm i z).getD z 0 + near ((S.tg.getD i 0 - (fm.getD i []).getD z 0) * (8 + (S.ld.getD i []).getD z 0)) 128 ∧ (kzL S c.ks fm i z).getD z 0 + near ((S.tg.getD i 0 - (fm.getD i []).getD z 0) * (8 + (S.ld.getD i []).getD z 0)) 128 ≤ 9223372036854775807 := fun z hz => by
      have := prb z hz
      have h2 := kv z hz
      rw [kzL_at z (Nat.le_refl z)]
      unfold near
      omega
    have ka : ∀ z, (kzL S c.ks fm i z).getD z 0 = (c.ks i).getD z 0 := fun z => kzL_at z (Nat.le_refl z)
    have keq : ∀ z, kyN S c.ks fm i z = max 0 (min 1000 ((kzL S c.ks fm i z).getD z 0 + near ((S.tg.getD i 0 - (fm.getD i []).getD z 0) * (8 + (S.ld.getD i []).getD z 0)) 128)) := fun z => by rw [ka]; rfl
    have kse : ∀ z, kyN S c.ks fm i z = (c.ks i).getD z 0 → z < S.Z → kzL S c.ks fm i (z + 1) = kzL S c.ks fm i z := fun z h hz => set_same ((ka z).trans h.symm) (by rw [kzL_len]; omega)
    have ksn : ∀ z, kzL S c.ks fm i (z + 1) = (kzL S c.ks fm i z).set z (max 0 (min 1000 ((kzL S c.ks fm i z).getD z 0 + near ((S.tg.getD i 0 - (fm.getD i []).getD z 0) * (8 + (S.ld.getD i []).getD z 0)) 128))) := fun z => by rw [← keq]; rfl
    have fze : ∀ z, kyN S c.ks fm i z = (c.ks i).getD z 0 → fzE S c.ks fm c.n i (z + 1) = fzE S c.ks fm c.n i z := fun z h => if_pos h
    have fzn : ∀ z, ¬ kyN S c.ks fm i z = (c.ks i).getD z 0 → feE S c sh fm i ++ fzE S c.ks fm c.n i (z + 1) = cut (feE S c sh fm i ++ fzE S c.ks fm c.n i z) 0 (feE S c sh fm i ++ fzE S c.ks fm c.n i z).length ++ cut [(c.n + 1 + 1, 1, (i : Int), (z : Int), max 0 (min 1000 ((kzL S c.ks fm i z).getD z 0 + near ((S.tg.getD i 0 - (fm.getD i []).getD z 0) * (8 + (S.ld.getD i []).getD z 0)) 128)), 0)] 0 1 := fun z h => by
      rw [cut_all rfl, ← keq, show fzE S c.ks fm c.n i (z + 1) = fzE S c.ks fm c.n i z ++ [(c.n + 1 + 1, 1, (i : Int), (z : Int), kyN S c.ks fm i z, 0)] from if_neg h, List.append_assoc]; rfl
    have evl : ∀ z, z ≤ S.Z → (feE S c sh fm i ++ fzE S c.ks fm c.n i z).length ≤ 1000 := fun z hz => by
      rw [List.length_append]
      have h1 := feE_len (S := S) (c := c) (sh := sh) (fm := fm) i
      have h2 := fzE_len (S := S) (ks := c.ks) (fm := fm) (n := c.n) (i := i) z
      have h3 : i * (S.Z + 1) ≤ 8 * 17 := Nat.mul_le_mul (by omega) (by omega)
      omega
    have f00 : rem (c.n + 1) c.ci = 0 → ¬ (rem (c.n + 1) c.cr = 0 ∧ ¬ ((sh.getD i (0, 0)).1 = 0 ∧ (sh.getD i (0, 0)).2 = 0)) → feE S c sh fm (i + 1) = feE S c sh fm i ++ fzE S c.ks fm c.n i S.Z := fun h1 h2 => by
      rw [feE, show kyE S c fm i = fzE S c.ks fm c.n i S.Z from if_pos h1, show jmE S c sh i = [] from if_neg h2, List.append_nil]
    have f01 : rem (c.n + 1) c.ci = 0 → (rem (c.n + 1) c.cr = 0 ∧ ¬ ((sh.getD i (0, 0)).1 = 0 ∧ (sh.getD i (0, 0)).2 = 0)) → feE S c sh fm (i + 1) = cut (feE S c sh fm i ++ fzE S c.ks fm c.n i S.Z) 0 (feE S c sh fm i ++ fzE S c.ks fm c.n i S.Z).length ++ cut [(c.n + 1 + 1, 4, (i : Int), 0, -(sh.getD i (0, 0)).1, -(sh.getD i (0, 0)).2)] 0 1 := fun h1 h2 => by
      rw [feE, show kyE S c fm i = fzE S c.ks fm c.n i S.Z from if_pos h1, show jmE S c sh i = [(c.n + 1 + 1, 4, (i : Int), 0, -(sh.getD i (0, 0)).1, -(sh.getD i (0, 0)).2)] from if_pos h2, cut_all rfl]; rfl
    have f10 : ¬ rem (c.n + 1) c.ci = 0 → ¬ (rem (c.n + 1) c.cr = 0 ∧ ¬ ((sh.getD i (0, 0)).1 = 0 ∧ (sh.getD i (0, 0)).2 = 0)) → feE S c sh fm (i + 1) = feE S c sh fm i := fun h1 h2 => by
      rw [feE, show kyE S c fm i = [] from if_neg h1, show jmE S c sh i = [] from if_neg h2, List.append_nil, List.append_nil]
    have f11 : ¬ rem (c.n + 1) c.ci = 0 → (rem (c.n + 1) c.cr = 0 ∧ ¬ ((sh.getD i (0, 0)).1 = 0 ∧ (sh.getD i (0, 0)).2 = 0)) → feE S c sh fm (i + 1) = cut (feE S c sh fm i) 0 (feE S c sh fm i).length ++ cut [(c.n + 1 + 1, 4, (i : Int), 0, -(sh.getD i (0, 0)).1, -(sh.getD i (0, 0)).2)] 0 1 := fun h1 h2 => by
      rw [feE, show kyE S c fm i = [] from if_neg h1, show jmE S c sh i = [(c.n + 1 + 1, 4, (i : Int), 0, -(sh.getD i (0, 0)).1, -(sh.getD i (0, 0)).2)] from if_pos h2, cut_all rfl, List.append_nil]; rfl
    have kdx : ¬ rem (c.n + 1) c.ci = 0 → kdn S c fm i = c.ks i := fun h => if_neg h
    have kzl := fun z => (kzL_len (S := S) (ks := c.ks) (fm := fm) (i := i) z).trans klj
    generalize feE S c sh fm = fe at *
    rcases b with ⟨rfl, b⟩ | ⟨rfl, b⟩ | ⟨rfl, b⟩ | ⟨rfl, b⟩ | ⟨rfl, b⟩ | ⟨rfl, b⟩ | ⟨rfl, b⟩ | ⟨rfl, b⟩
    all_goals first | (exfalso; omega) | refine Tw.hE (by simp only [ehp, ctR, ctC, ksC, ksR, keK, keJ, Nat.reduceLT, Nat.reduceEqDiff, Nat.lt_irrefl, Nat.not_lt_zero, reduceIte, List.cons_append, List.nil_append, Nat.reduceAdd]; rfl) ?_
    all_goals
      by_cases hd : rem (c.n + 1) c.ci = 0
      · repeat' (first
          | with_reducible first | refine Tw.seq ?_ | refine Tw.reg ?_ | refine Tw.block ?_ | refine Tw.scope ?_ | refine Tw.skip ?_ | refine Tw.exit ?_ | refine Tw.ret ?_ | refine seqN ?_ | refine seqR ?_ | refine seqE ?_ | refine rndN ?_ | refine blkN ?_ | refine blkR ?_ | refine blkE1 ?_ | refine blkE0 (by kernel_rfl) ?_ | refine scpN ?_ | refine scpR ?_ | refine scpE ?_ | refine TOps.nil ?_ | exact Conj.nil | refine Conj.cons rfl ?_ | refine Conj.same ?_ | refine Conj.ask ?_ ?_ | refine Tw.regd env ?_ | refine TDr.nil ⟨by kernel_rfl, ?_⟩
          | ((with_reducible refine TOps.any ?_); first | refine TOps.frunP env (by rfl) (by rfl) ?_ ?_ | (refine TOps.known (by rfl) ?_; refine TOps.strip env (by rfl) (by rfl) ?_ ?_) | refine TOps.on (by rfl) (by rfl) ?_)
          | ((with_reducible refine TDr.any ?_); refine TDr.frunP env (by rfl) (by rfl) ?_ ?_)
          | ((with_reducible refine Tw.any ?_); first | refine Tw.condT (by rfl) ?_ | refine Tw.condF (by rfl) ?_)
          | ((first | ((with_reducible refine TOps.any ?_); (fail_if_success refine TOps.known (by rfl) ?_); refine TOps.ask (by rfl) (fun h => ?_) (fun h => ?_)) | ((with_reducible refine TDr.any ?_); (fail_if_success refine TDr.known (by first | rfl | assumption) ?_); refine TDr.ask (by rfl) (fun h hk => ?_) (fun h => ?_)) | ((with_reducible refine Tw.any ?_); refine Tw.cond (by rfl) (fun h => ?_) (fun h => ?_))) <;> (try simp only [goS] at h) <;> (try simp only [rdi, rd6i, rdLiJ, rd2i, hd, klj, Int.toNat_natCast, Nat.add_zero] at h) <;> (try (exfalso; (try simp only [goP, reduceCtorEq] at h) <;> (first | assumption | omega | contradiction | (rcases h with ⟨_, _⟩ <;> first | contradiction | omega) | (rcases h with h | h <;> first | contradiction | omega)))))
          | ((with_reducible refine tret.any ?_); first | refine tret.ok (by rfl) ?_ | refine tret.okN (by rfl) ?_)
          | ((with_reducible refine Due.mk ?_); (first | with_reducible rfl | omega | assumption | decide | ((try simp only [goS] at *) <;> (try intro h) <;> (try intro h') <;> (try simp only [goS] at *) <;> (try simp only [rdi, rd6i, rdLiJ, rd2i, hd, klj, Int.toNat_natCast, Nat.add_zero] at *) <;> (try simp only [rng]) <;> (first | assumption | omega)) | (exact due_app0 (by omega)) | (exact due_app (by omega)) | (intros; simp; done) | (intros; simp; omega)))
          | with_reducible refine Due.mk ?_
          | omega)
        refine Tw.loopK [0, 3, 39, 40, 8, 60] (fun z : Nat => z ≤ S.Z) (fun z => S.Z - z) (fun z => hG j z) (fun z => hz j z) ⟨0, by omega, ?_⟩ (fun z hz1 => ?_)
        · rw [ehG, ej]
          refine TWk.hE (by simp only [ehz, ej, ctR, ctC, ksC, ksR, keK, keJ, Nat.reduceLT, Nat.reduceEqDiff, Nat.lt_irrefl, Nat.not_lt_zero, reduceIte, List.cons_append, List.nil_append, Nat.reduceAdd]; rfl) (TWk.fcanonR env 0 (by rfl) ?_)
          repeat' (first
            | exact congrArg List.length (List.append_nil _)
            | exact List.append_nil _
            | with_reducible first | refine Tw.seq ?_ | refine Tw.reg ?_ | refine Tw.block ?_ | refine Tw.scope ?_ | refine Tw.skip ?_ | refine Tw.exit ?_ | refine Tw.ret ?_ | refine seqN ?_ | refine seqR ?_ | refine seqE ?_ | refine rndN ?_ | refine blkN ?_ | refine blkR ?_ | refine blkE1 ?_ | refine blkE0 (by kernel_rfl) ?_ | refine scpN ?_ | refine scpR ?_ | refine scpE ?_ | refine TOps.nil ?_ | exact Conj.nil | refine Conj.cons rfl ?_ | refine Conj.same ?_ | refine Conj.ask ?_ ?_ | refine Tw.regd env ?_ | refine TDr.nil ⟨by kernel_rfl, ?_⟩
            | ((with_reducible refine TOps.any ?_); first | refine TOps.frunP env (by rfl) (by rfl) ?_ ?_ | (refine TOps.known (by rfl) ?_; refine TOps.strip env (by rfl) (by rfl) ?_ ?_) | refine TOps.on (by rfl) (by rfl) ?_)
            | ((with_reducible refine TDr.any ?_); refine TDr.frunP env (by rfl) (by rfl) ?_ ?_)
            | ((with_reducible refine Tw.any ?_); first | refine Tw.condT (by rfl) ?_ | refine Tw.condF (by rfl) ?_)
            | ((first | ((with_reducible refine TOps.any ?_); (fail_if_success refine TOps.known (by rfl) ?_); refine TOps.ask (by rfl) (fun h => ?_) (fun h => ?_)) | ((with_reducible refine TDr.any ?_); (fail_if_success refine TDr.known (by first | rfl | assumption) ?_); refine TDr.ask (by rfl) (fun h hk => ?_) (fun h => ?_)) | ((with_reducible refine Tw.any ?_); refine Tw.cond (by rfl) (fun h => ?_) (fun h => ?_))) <;> (try simp only [goS] at h) <;> (try simp only [rdi, rd6i, rdLiJ, rd2i, klj, ej, Int.toNat_natCast, Nat.add_zero] at h))
            | ((with_reducible refine tret.any ?_); first | refine tret.ok (by rfl) ?_ | refine tret.okN (by rfl) ?_)
            | ((with_reducible refine Due.mk ?_); (first | with_reducible rfl | omega | assumption | decide | ((try simp only [goS] at *) <;> (try intro h) <;> (try intro h') <;> (try simp only [goS] at *) <;> (try simp only [rdi, rd6i, rdLiJ, rd2i, klj, ej, Int.toNat_natCast, Nat.add_zero] at *) <;> (try simp only [rng]) <;> (first | assumption | omega)) | (exact due_app0 (by omega)) | (exact due_app (by omega)) | (intros; simp; done) | (intros; simp; omega)))
            | with_reducible refine Due.mk ?_
            | omega)
        rw [ehG, ej]
        rcases Nat.lt_or_ge z S.Z with hz1 | hz1
        · have kvz := kv z hz1
          have fvz := fv z hz1
          have lvz := lv.2 z hz1
          have kze := kzl z
          have pbz := pb z hz1
          have nrz := nr z hz1
          have nbz := nb z hz1
          have el := evl z (by omega)
          have kaz := ka z
          have kqz := keq z
          rw [kaz] at kqz
          refine Tw.hE (by simp only [ehz, ej, ctR, ctC, ksC, ksR, keK, keJ, Nat.reduceLT, Nat.reduceEqDiff, Nat.lt_irrefl, Nat.not_lt_zero, reduceIte, List.cons_append, List.nil_append, Nat.reduceAdd]; rfl) ?_
          by_cases he : kyN S c.ks fm j z = (c.ks j).getD z 0
          · rw [ej] at he
            have q1 := kse z he hz1
            have q2 := fze z he
            rw [kqz] at he
            have ql := congrArg (fun l => (fe j ++ l).length) q2
            rw [ej] at ql
            have qa := congrArg (fun l => fe j ++ l) q2
            rw [ej] at qa
            clear pb nr nb evl ka keq kse ksn fze fzn prb kqz
            repeat' (first
              | ((with_reducible refine TOps.any ?_); refine TOps.callE env (by rfl) (by rfl) (by rfl) ?_ (nrz) (by rfl) ?_)
              | exact pbz
              | exact nbz
              | with_reducible first | refine Tw.seq ?_ | refine Tw.reg ?_ | refine Tw.block ?_ | refine Tw.scope ?_ | refine Tw.skip ?_ | refine Tw.exit ?_ | refine Tw.ret ?_ | refine seqN ?_ | refine seqR ?_ | refine seqE ?_ | refine rndN ?_ | refine blkN ?_ | refine blkR ?_ | refine blkE1 ?_ | refine blkE0 (by kernel_rfl) ?_ | refine scpN ?_ | refine scpR ?_ | refine scpE ?_ | refine TOps.nil ?_ | exact Conj.nil | refine Conj.cons rfl ?_ | refine Conj.same ?_ | refine Conj.ask ?_ ?_ | refine Tw.regd env ?_ | refine TDr.nil ⟨by kernel_rfl, ?_⟩
              | ((with_reducible refine TOps.any ?_); first | refine TOps.frunP env (by rfl) (by rfl) ?_ ?_ | (refine TOps.known (by rfl) ?_; refine TOps.strip env (by rfl) (by rfl) ?_ ?_) | refine TOps.on (by rfl) (by rfl) ?_)
              | ((with_reducible refine TDr.any ?_); refine TDr.frunP env (by rfl) (by rfl) ?_ ?_)
              | ((with_reducible refine Tw.any ?_); first | refine Tw.condT (by rfl) ?_ | refine Tw.condF (by rfl) ?_)
              | ((first | ((with_reducible refine TOps.any ?_); (fail_if_success refine TOps.known (by rfl) ?_); refine TOps.ask (by rfl) (fun h => ?_) (fun h => ?_)) | ((with_reducible refine TDr.any ?_); (fail_if_success refine TDr.known (by first | rfl | assumption) ?_); refine TDr.ask (by rfl) (fun h hk => ?_) (fun h => ?_)) | ((with_reducible refine Tw.any ?_); refine Tw.cond (by rfl) (fun h => ?_) (fun h => ?_))) <;> (try simp only [goS] at h) <;> (try simp only [rdi, rd6i, rdLiJ, rd2i, kze, fz', lz', ofl, tl, ll, kaz, Int.toNat_natCast, Nat.add_zero] at h) <;> (try (exfalso; (try simp only [goP, reduceCtorEq] at h) <;> (first | assumption | omega | contradiction | (rcases h with ⟨_, _⟩ <;> first | contradiction | omega) | (rcases h with h | h <;> first | contradiction | omega)))))
              | ((with_reducible refine tret.any ?_); first | refine tret.ok (by rfl) ?_ | refine tret.okN (by rfl) ?_)
              | ((with_reducible refine Due.mk ?_); (first | with_reducible rfl | omega | assumption | decide | ((try simp only [goS] at *) <;> (try intro h) <;> (try intro h') <;> (try simp only [goS] at *) <;> (try simp only [rdi, rd6i, rdLiJ, rd2i, kze, fz', lz', ofl, tl, ll, kaz, Int.toNat_natCast, Nat.add_zero] at *) <;> (try simp only [rng]) <;> (first | assumption | omega)) | (exact due_app0 (by omega)) | (exact due_app (by omega)) | (intros; simp; done) | (intros; simp; omega)))
              | with_reducible refine Due.mk ?_
              | omega)
            refine ⟨z + 1, by omega, by omega, ?_⟩
            refine TWk.hE (by simp only [ehz, q1, ctR, ctC, ksC, ksR, keK, keJ, Nat.reduceLT, Nat.reduceEqDiff, Nat.lt_irrefl, Nat.not_lt_zero, reduceIte, List.cons_append, List.nil_append, Nat.reduceAdd]; rfl) (TWk.fcanonR env 0 (by rfl) ?_)
            repeat' (first
              | exact ql
              | exact qa
              | with_reducible first | refine Tw.seq ?_ | refine Tw.reg ?_ | refine Tw.block ?_ | refine Tw.scope ?_ | refine Tw.skip ?_ | refine Tw.exit ?_ | refine Tw.ret ?_ | refine seqN ?_ | refine seqR ?_ | refine seqE ?_ | refine rndN ?_ | refine blkN ?_ | refine blkR ?_ | refine blkE1 ?_ | refine blkE0 (by kernel_rfl) ?_ | refine scpN ?_ | refine scpR ?_ | refine scpE ?_ | refine TOps.nil ?_ | exact Conj.nil | refine Conj.cons rfl ?_ | refine Conj.same ?_ | refine Conj.ask ?_ ?_ | refine Tw.regd env ?_ | refine TDr.nil ⟨by kernel_rfl, ?_⟩
              | ((with_reducible refine TOps.any ?_); first | refine TOps.frunP env (by rfl) (by rfl) ?_ ?_ | (refine TOps.known (by rfl) ?_; refine TOps.strip env (by rfl) (by rfl) ?_ ?_) | refine TOps.on (by rfl) (by rfl) ?_)
              | ((with_reducible refine TDr.any ?_); refine TDr.frunP env (by rfl) (by rfl) ?_ ?_)
              | ((with_reducible refine Tw.any ?_); first | refine Tw.condT (by rfl) ?_ | refine Tw.condF (by rfl) ?_)
              | ((first | ((with_reducible refine TOps.any ?_); (fail_if_success refine TOps.known (by rfl) ?_); refine TOps.ask (by rfl) (fun h => ?_) (fun h => ?_)) | ((with_reducible refine TDr.any ?_); (fail_if_success refine TDr.known (by first | rfl | assumption) ?_); refine TDr.ask (by rfl) (fun h hk => ?_) (fun h => ?_)) | ((with_reducible refine Tw.any ?_); refine Tw.cond (by rfl) (fun h => ?_) (fun h => ?_))) <;> (try simp only [goS] at h) <;> (try simp only [rdi, rd6i, rdLiJ, rd2i, Int.toNat_natCast, Nat.add_zero] at h))
              | ((with_reducible refine tret.any ?_); first | refine tret.ok (by rfl) ?_ | refine tret.okN (by rfl) ?_)
              | ((with_reducible refine Due.mk ?_); (first | with_reducible rfl | omega | assumption | decide | ((try simp only [goS] at *) <;> (try intro h) <;> (try intro h') <;> (try simp only [goS] at *) <;> (try simp only [rdi, rd6i, rdLiJ, rd2i, Int.toNat_natCast, Nat.add_zero] at *) <;> (try simp only [rng]) <;> (first | assumption | omega)) | (exact due_app0 (by omega)) | (exact due_app (by omega)) | (intros; simp; done) | (intros; simp; omega)))
              | with_reducible refine Due.mk ?_
              | omega)
          · rw [ej] at he
            have q1 := ksn z
            have q2 := fzn z he
            rw [kqz] at he
            have ql := (congrArg List.length q2).trans (len_cut _ _)
            clear pb nr nb evl ka keq kse ksn fze fzn prb kqz
            repeat' (first
              | ((with_reducible refine TOps.any ?_); refine TOps.callE env (by rfl) (by rfl) (by rfl) ?_ (nrz) (by rfl) ?_)
              | exact pbz
              | exact nbz
              | exact apd _ _ el
              | with_reducible first | refine Tw.seq ?_ | refine Tw.reg ?_ | refine Tw.block ?_ | refine Tw.scope ?_ | refine Tw.skip ?_ | refine Tw.exit ?_ | refine Tw.ret ?_ | refine seqN ?_ | refine seqR ?_ | refine seqE ?_ | refine rndN ?_ | refine blkN ?_ | refine blkR ?_ | refine blkE1 ?_ | refine blkE0 (by kernel_rfl) ?_ | refine scpN ?_ | refine scpR ?_ | refine scpE ?_ | refine TOps.nil ?_ | exact Conj.nil | refine Conj.cons rfl ?_ | refine Conj.same ?_ | refine Conj.ask ?_ ?_ | refine Tw.regd env ?_ | refine TDr.nil ⟨by kernel_rfl, ?_⟩
              | ((with_reducible refine TOps.any ?_); first | refine TOps.frunP env (by rfl) (by rfl) ?_ ?_ | (refine TOps.known (by rfl) ?_; refine TOps.strip env (by rfl) (by rfl) ?_ ?_) | refine TOps.on (by rfl) (by rfl) ?_)
              | ((with_reducible refine TDr.any ?_); refine TDr.frunP env (by rfl) (by rfl) ?_ ?_)
              | ((with_reducible refine Tw.any ?_); first | refine Tw.condT (by rfl) ?_ | refine Tw.condF (by rfl) ?_)
              | ((first | ((with_reducible refine TOps.any ?_); (fail_if_success refine TOps.known (by rfl) ?_); refine TOps.ask (by rfl) (fun h => ?_) (fun h => ?_)) | ((with_reducible refine TDr.any ?_); (fail_if_success refine TDr.known (by first | rfl | assumption) ?_); refine TDr.ask (by rfl) (fun h hk => ?_) (fun h => ?_)) | ((with_reducible refine Tw.any ?_); refine Tw.cond (by rfl) (fun h => ?_) (fun h => ?_))) <;> (try simp only [goS] at h) <;> (try simp only [rdi, rd6i, rdLiJ, rd2i, kze, fz', lz', ofl, tl, ll, kaz, Int.toNat_natCast, Nat.add_zero] at h) <;> (try (exfalso; (try simp only [goP, reduceCtorEq] at h) <;> (first | assumption | omega | contradiction | (rcases h with ⟨_, _⟩ <;> first | contradiction | omega) | (rcases h with h | h <;> first | contradiction | omega)))))
              | ((with_reducible refine tret.any ?_); first | refine tret.ok (by rfl) ?_ | refine tret.okN (by rfl) ?_)
              | ((with_reducible refine Due.mk ?_); (first | with_reducible rfl | omega | assumption | decide | ((try simp only [goS] at *) <;> (try intro h) <;> (try intro h') <;> (try simp only [goS] at *) <;> (try simp only [rdi, rd6i, rdLiJ, rd2i, kze, fz', lz', ofl, tl, ll, kaz, Int.toNat_natCast, Nat.add_zero] at *) <;> (try simp only [rng]) <;> (first | assumption | omega)) | (exact due_app0 (by omega)) | (exact due_app (by omega)) | (intros; simp; done) | (intros; simp; omega)))
              | with_reducible refine Due.mk ?_
              | omega)
            refine ⟨z + 1, by omega, by omega, ?_⟩
            refine TWk.hE (by simp only [ehz, q1, ctR, ctC, ksC, ksR, keK, keJ, Nat.reduceLT, Nat.reduceEqDiff, Nat.lt_irrefl, Nat.not_lt_zero, reduceIte, List.cons_append, List.nil_append, Nat.reduceAdd]; rfl) (TWk.fcanonG env (fun n => (List.range (n - 1)).map some ++ [some (n + 1)]) (by rfl) ?_)
            repeat' (first
              | exact ql
              | exact q2
              | with_reducible first | refine Tw.seq ?_ | refine Tw.reg ?_ | refine Tw.block ?_ | refine Tw.scope ?_ | refine Tw.skip ?_ | refine Tw.exit ?_ | refine Tw.ret ?_ | refine seqN ?_ | refine seqR ?_ | refine seqE ?_ | refine rndN ?_ | refine blkN ?_ | refine blkR ?_ | refine blkE1 ?_ | refine blkE0 (by kernel_rfl) ?_ | refine scpN ?_ | refine scpR ?_ | refine scpE ?_ | refine TOps.nil ?_ | exact Conj.nil | refine Conj.cons rfl ?_ | refine Conj.same ?_ | refine Conj.ask ?_ ?_ | refine Tw.regd env ?_ | refine TDr.nil ⟨by kernel_rfl, ?_⟩
              | ((with_reducible refine TOps.any ?_); first | refine TOps.frunP env (by rfl) (by rfl) ?_ ?_ | (refine TOps.known (by rfl) ?_; refine TOps.strip env (by rfl) (by rfl) ?_ ?_) | refine TOps.on (by rfl) (by rfl) ?_)
              | ((with_reducible refine TDr.any ?_); refine TDr.frunP env (by rfl) (by rfl) ?_ ?_)
              | ((with_reducible refine Tw.any ?_); first | refine Tw.condT (by rfl) ?_ | refine Tw.condF (by rfl) ?_)
              | ((first | ((with_reducible refine TOps.any ?_); (fail_if_success refine TOps.known (by rfl) ?_); refine TOps.ask (by rfl) (fun h => ?_) (fun h => ?_)) | ((with_reducible refine TDr.any ?_); (fail_if_success refine TDr.known (by first | rfl | assumption) ?_); refine TDr.ask (by rfl) (fun h hk => ?_) (fun h => ?_)) | ((with_reducible refine Tw.any ?_); refine Tw.cond (by rfl) (fun h => ?_) (fun h => ?_))) <;> (try simp only [goS] at h) <;> (try simp only [rdi, rd6i, rdLiJ, rd2i, Int.toNat_natCast, Nat.add_zero] at h))
              | ((with_reducible refine tret.any ?_); first | refine tret.ok (by rfl) ?_ | refine tret.okN (by rfl) ?_)
              | ((with_reducible refine Due.mk ?_); (first | with_reducible rfl | omega | assumption | decide | ((try simp only [goS] at *) <;> (try intro h) <;> (try intro h') <;> (try simp only [goS] at *) <;> (try simp only [rdi, rd6i, rdLiJ, rd2i, Int.toNat_natCast, Nat.add_zero] at *) <;> (try simp only [rng]) <;> (first | assumption | omega)) | (exact due_app0 (by omega)) | (exact due_app (by omega)) | (intros; simp; done) | (intros; simp; omega)))
              | with_reducible refine Due.mk ?_
              | omega)
        · obtain rfl : z = S.Z := by omega
          clear pb nr nb ka keq kse ksn fze fzn prb
          have el := evl S.Z (Nat.le_refl _)
          rw [ehz]
          dsimp only
          rw [keJ_end hd]
          refine Tw.hE (by simp only [ctR, ctC, ksC, ksR, keK, keJ, Nat.reduceLT, Nat.reduceEqDiff, Nat.lt_irrefl, Nat.not_lt_zero, reduceIte, List.cons_append, List.nil_append, Nat.reduceAdd]; rfl) ?_
          by_cases hr : rem (c.n + 1) c.cr = 0
          · by_cases hs0 : (sh.getD j (0, 0)).1 = 0 ∧ (sh.getD j (0, 0)).2 = 0
            · have fx := f00 hd (fun h => h.2 (ej ▸ hs0))
              rw [ej] at hs0
              repeat' (first
                | with_reducible first | refine Tw.seq ?_ | refine Tw.reg ?_ | refine Tw.block ?_ | refine Tw.scope ?_ | refine Tw.skip ?_ | refine Tw.exit ?_ | refine Tw.ret ?_ | refine seqN ?_ | refine seqR ?_ | refine seqE ?_ | refine rndN ?_ | refine blkN ?_ | refine blkR ?_ | refine blkE1 ?_ | refine blkE0 (by kernel_rfl) ?_ | refine scpN ?_ | refine scpR ?_ | refine scpE ?_ | refine TOps.nil ?_ | exact Conj.nil | refine Conj.cons rfl ?_ | refine Conj.same ?_ | refine Conj.ask ?_ ?_ | refine Tw.regd env ?_ | refine TDr.nil ⟨by kernel_rfl, ?_⟩
                | ((with_reducible refine TOps.any ?_); first | refine TOps.frunP env (by rfl) (by rfl) ?_ ?_ | (refine TOps.known (by rfl) ?_; refine TOps.strip env (by rfl) (by rfl) ?_ ?_) | refine TOps.on (by rfl) (by rfl) ?_)
                | ((with_reducible refine TDr.any ?_); refine TDr.frunP env (by rfl) (by rfl) ?_ ?_)
                | ((with_reducible refine Tw.any ?_); first | refine Tw.condT (by rfl) ?_ | refine Tw.condF (by rfl) ?_)
                | ((first | ((with_reducible refine TOps.any ?_); (fail_if_success refine TOps.known (by rfl) ?_); refine TOps.ask (by rfl) (fun h => ?_) (fun h => ?_)) | ((with_reducible refine TDr.any ?_); (fail_if_success refine TDr.known (by first | rfl | assumption) ?_); refine TDr.ask (by rfl) (fun h hk => ?_) (fun h => ?_)) | ((with_reducible refine Tw.any ?_); refine Tw.cond (by rfl) (fun h => ?_) (fun h => ?_))) <;> (try simp only [goS] at h) <;> (try simp only [rdi, rd6i, rdLiJ, rd2i, hr, osl, Int.toNat_natCast, Nat.add_zero] at h) <;> (try (exfalso; (try simp only [goP, reduceCtorEq] at h) <;> (first | assumption | omega | contradiction | (rcases h with ⟨_, _⟩ <;> first | contradiction | omega) | (rcases h with h | h <;> first | contradiction | omega)))))
                | ((with_reducible refine tret.any ?_); first | refine tret.ok (by rfl) ?_ | refine tret.okN (by rfl) ?_)
                | ((with_reducible refine Due.mk ?_); (first | with_reducible rfl | omega | assumption | decide | ((try simp only [goS] at *) <;> (try intro h) <;> (try intro h') <;> (try simp only [goS] at *) <;> (try simp only [rdi, rd6i, rdLiJ, rd2i, hr, osl, Int.toNat_natCast, Nat.add_zero] at *) <;> (try simp only [rng]) <;> (first | assumption | omega)) | (exact due_app0 (by omega)) | (exact due_app (by omega)) | (intros; simp; done) | (intros; simp; omega)))
                | with_reducible refine Due.mk ?_
                | omega)
              refine ⟨j + 1, by omega, by omega, ?_⟩
              rw [ej]
              refine TWk.hE (by simp only [ehp, ej, ctR, ctC, ksC, ksR, keK, keJ, Nat.reduceLT, Nat.reduceEqDiff, Nat.lt_irrefl, Nat.not_lt_zero, reduceIte, List.cons_append, List.nil_append, Nat.reduceAdd]; rfl) (TWk.fcanonR env 0 (by rfl) ?_)
              repeat' (first
                | exact congrArg List.length fx
                | exact fx
                | with_reducible first | refine Tw.seq ?_ | refine Tw.reg ?_ | refine Tw.block ?_ | refine Tw.scope ?_ | refine Tw.skip ?_ | refine Tw.exit ?_ | refine Tw.ret ?_ | refine seqN ?_ | refine seqR ?_ | refine seqE ?_ | refine rndN ?_ | refine blkN ?_ | refine blkR ?_ | refine blkE1 ?_ | refine blkE0 (by kernel_rfl) ?_ | refine scpN ?_ | refine scpR ?_ | refine scpE ?_ | refine TOps.nil ?_ | exact Conj.nil | refine Conj.cons rfl ?_ | refine Conj.same ?_ | refine Conj.ask ?_ ?_ | refine Tw.regd env ?_ | refine TDr.nil ⟨by kernel_rfl, ?_⟩
                | ((with_reducible refine TOps.any ?_); first | refine TOps.frunP env (by rfl) (by rfl) ?_ ?_ | (refine TOps.known (by rfl) ?_; refine TOps.strip env (by rfl) (by rfl) ?_ ?_) | refine TOps.on (by rfl) (by rfl) ?_)
                | ((with_reducible refine TDr.any ?_); refine TDr.frunP env (by rfl) (by rfl) ?_ ?_)
                | ((with_reducible refine Tw.any ?_); first | refine Tw.condT (by rfl) ?_ | refine Tw.condF (by rfl) ?_)
                | ((first | ((with_reducible refine TOps.any ?_); (fail_if_success refine TOps.known (by rfl) ?_); refine TOps.ask (by rfl) (fun h => ?_) (fun h => ?_)) | ((with_reducible refine TDr.any ?_); (fail_if_success refine TDr.known (by first | rfl | assumption) ?_); refine TDr.ask (by rfl) (fun h hk => ?_) (fun h => ?_)) | ((with_reducible refine Tw.any ?_); refine Tw.cond (by rfl) (fun h => ?_) (fun h => ?_))) <;> (try simp only [goS] at h) <;> (try simp only [rdi, rd6i, rdLiJ, rd2i, Int.toNat_natCast, Nat.add_zero] at h))
                | ((with_reducible refine tret.any ?_); first | refine tret.ok (by rfl) ?_ | refine tret.okN (by rfl) ?_)
                | ((with_reducible refine Due.mk ?_); (first | with_reducible rfl | omega | assumption | decide | ((try simp only [goS] at *) <;> (try intro h) <;> (try intro h') <;> (try simp only [goS] at *) <;> (try simp only [rdi, rd6i, rdLiJ, rd2i, Int.toNat_natCast, Nat.add_zero] at *) <;> (try simp only [rng]) <;> (first | assumption | omega)) | (exact due_app0 (by omega)) | (exact due_app (by omega)) | (intros; simp; done) | (intros; simp; omega)))
                | with_reducible refine Due.mk ?_
                | omega)
            · have fx := f01 hd ⟨hr, ej ▸ hs0⟩
              have ql := (congrArg List.length fx).trans (len_cut _ _)
              rw [ej] at hs0
              repeat' (first
                | exact apd _ _ el
                | with_reducible first | refine Tw.seq ?_ | refine Tw.reg ?_ | refine Tw.block ?_ | refine Tw.scope ?_ | refine Tw.skip ?_ | refine Tw.exit ?_ | refine Tw.ret ?_ | refine seqN ?_ | refine seqR ?_ | refine seqE ?_ | refine rndN ?_ | refine blkN ?_ | refine blkR ?_ | refine blkE1 ?_ | refine blkE0 (by kernel_rfl) ?_ | refine scpN ?_ | refine scpR ?_ | refine scpE ?_ | refine TOps.nil ?_ | exact Conj.nil | refine Conj.cons rfl ?_ | refine Conj.same ?_ | refine Conj.ask ?_ ?_ | refine Tw.regd env ?_ | refine TDr.nil ⟨by kernel_rfl, ?_⟩
                | ((with_reducible refine TOps.any ?_); first | refine TOps.frunP env (by rfl) (by rfl) ?_ ?_ | (refine TOps.known (by rfl) ?_; refine TOps.strip env (by rfl) (by rfl) ?_ ?_) | refine TOps.on (by rfl) (by rfl) ?_)
                | ((with_reducible refine TDr.any ?_); refine TDr.frunP env (by rfl) (by rfl) ?_ ?_)
                | ((with_reducible refine Tw.any ?_); first | refine Tw.condT (by rfl) ?_ | refine Tw.condF (by rfl) ?_)
                | ((first | ((with_reducible refine TOps.any ?_); (fail_if_success refine TOps.known (by rfl) ?_); refine TOps.ask (by rfl) (fun h => ?_) (fun h => ?_)) | ((with_reducible refine TDr.any ?_); (fail_if_success refine TDr.known (by first | rfl | assumption) ?_); refine TDr.ask (by rfl) (fun h hk => ?_) (fun h => ?_)) | ((with_reducible refine Tw.any ?_); refine Tw.cond (by rfl) (fun h => ?_) (fun h => ?_))) <;> (try simp only [goS] at h) <;> (try simp only [rdi, rd6i, rdLiJ, rd2i, hr, osl, Int.toNat_natCast, Nat.add_zero] at h) <;> (try (exfalso; (try simp only [goP, reduceCtorEq] at h) <;> (first | assumption | omega | contradiction | (rcases h with ⟨_, _⟩ <;> first | contradiction | omega) | (rcases h with h | h <;> first | contradiction | omega)))))
                | ((with_reducible refine tret.any ?_); first | refine tret.ok (by rfl) ?_ | refine tret.okN (by rfl) ?_)
                | ((with_reducible refine Due.mk ?_); (first | with_reducible rfl | omega | assumption | decide | ((try simp only [goS] at *) <;> (try intro h) <;> (try intro h') <;> (try simp only [goS] at *) <;> (try simp only [rdi, rd6i, rdLiJ, rd2i, hr, osl, Int.toNat_natCast, Nat.add_zero] at *) <;> (try simp only [rng]) <;> (first | assumption | omega)) | (exact due_app0 (by omega)) | (exact due_app (by omega)) | (intros; simp; done) | (intros; simp; omega)))
                | with_reducible refine Due.mk ?_
                | omega)
              refine ⟨j + 1, by omega, by omega, ?_⟩
              rw [ej]
              refine TWk.hE (by simp only [ehp, ej, ctR, ctC, ksC, ksR, keK, keJ, Nat.reduceLT, Nat.reduceEqDiff, Nat.lt_irrefl, Nat.not_lt_zero, reduceIte, List.cons_append, List.nil_append, Nat.reduceAdd]; rfl) (TWk.fcanonG env (fun n => (List.range (n - 1)).map some ++ [some (n + 2)]) (by rfl) ?_)
              repeat' (first
                | exact ql
                | exact fx
                | with_reducible first | refine Tw.seq ?_ | refine Tw.reg ?_ | refine Tw.block ?_ | refine Tw.scope ?_ | refine Tw.skip ?_ | refine Tw.exit ?_ | refine Tw.ret ?_ | refine seqN ?_ | refine seqR ?_ | refine seqE ?_ | refine rndN ?_ | refine blkN ?_ | refine blkR ?_ | refine blkE1 ?_ | refine blkE0 (by kernel_rfl) ?_ | refine scpN ?_ | refine scpR ?_ | refine scpE ?_ | refine TOps.nil ?_ | exact Conj.nil | refine Conj.cons rfl ?_ | refine Conj.same ?_ | refine Conj.ask ?_ ?_ | refine Tw.regd env ?_ | refine TDr.nil ⟨by kernel_rfl, ?_⟩
                | ((with_reducible refine TOps.any ?_); first | refine TOps.frunP env (by rfl) (by rfl) ?_ ?_ | (refine TOps.known (by rfl) ?_; refine TOps.strip env (by rfl) (by rfl) ?_ ?_) | refine TOps.on (by rfl) (by rfl) ?_)
                | ((with_reducible refine TDr.any ?_); refine TDr.frunP env (by rfl) (by rfl) ?_ ?_)
                | ((with_reducible refine Tw.any ?_); first | refine Tw.condT (by rfl) ?_ | refine Tw.condF (by rfl) ?_)
                | ((first | ((with_reducible refine TOps.any ?_); (fail_if_success refine TOps.known (by rfl) ?_); refine TOps.ask (by rfl) (fun h => ?_) (fun h => ?_)) | ((with_reducible refine TDr.any ?_); (fail_if_success refine TDr.known (by first | rfl | assumption) ?_); refine TDr.ask (by rfl) (fun h hk => ?_) (fun h => ?_)) | ((with_reducible refine Tw.any ?_); refine Tw.cond (by rfl) (fun h => ?_) (fun h => ?_))) <;> (try simp only [goS] at h) <;> (try simp only [rdi, rd6i, rdLiJ, rd2i, Int.toNat_natCast, Nat.add_zero] at h))
                | ((with_reducible refine tret.any ?_); first | refine tret.ok (by rfl) ?_ | refine tret.okN (by rfl) ?_)
                | ((with_reducible refine Due.mk ?_); (first | with_reducible rfl | omega | assumption | decide | ((try simp only [goS] at *) <;> (try intro h) <;> (try intro h') <;> (try simp only [goS] at *) <;> (try simp only [rdi, rd6i, rdLiJ, rd2i, Int.toNat_natCast, Nat.add_zero] at *) <;> (try simp only [rng]) <;> (first | assumption | omega)) | (exact due_app0 (by omega)) | (exact due_app (by omega)) | (intros; simp; done) | (intros; simp; omega)))
                | with_reducible refine Due.mk ?_
                | omega)
          · have fx := f00 hd (fun h => hr h.1)
            repeat' (first
              | with_reducible first | refine Tw.seq ?_ | refine Tw.reg ?_ | refine Tw.block ?_ | refine Tw.scope ?_ | refine Tw.skip ?_ | refine Tw.exit ?_ | refine Tw.ret ?_ | refine seqN ?_ | refine seqR ?_ | refine seqE ?_ | refine rndN ?_ | refine blkN ?_ | refine blkR ?_ | refine blkE1 ?_ | refine blkE0 (by kernel_rfl) ?_ | refine scpN ?_ | refine scpR ?_ | refine scpE ?_ | refine TOps.nil ?_ | exact Conj.nil | refine Conj.cons rfl ?_ | refine Conj.same ?_ | refine Conj.ask ?_ ?_ | refine Tw.regd env ?_ | refine TDr.nil ⟨by kernel_rfl, ?_⟩
              | ((with_reducible refine TOps.any ?_); first | refine TOps.frunP env (by rfl) (by rfl) ?_ ?_ | (refine TOps.known (by rfl) ?_; refine TOps.strip env (by rfl) (by rfl) ?_ ?_) | refine TOps.on (by rfl) (by rfl) ?_)
              | ((with_reducible refine TDr.any ?_); refine TDr.frunP env (by rfl) (by rfl) ?_ ?_)
              | ((with_reducible refine Tw.any ?_); first | refine Tw.condT (by rfl) ?_ | refine Tw.condF (by rfl) ?_)
              | ((first | ((with_reducible refine TOps.any ?_); (fail_if_success refine TOps.known (by rfl) ?_); refine TOps.ask (by rfl) (fun h => ?_) (fun h => ?_)) | ((with_reducible refine TDr.any ?_); (fail_if_success refine TDr.known (by first | rfl | assumption) ?_); refine TDr.ask (by rfl) (fun h hk => ?_) (fun h => ?_)) | ((with_reducible refine Tw.any ?_); refine Tw.cond (by rfl) (fun h => ?_) (fun h => ?_))) <;> (try simp only [goS] at h) <;> (try simp only [rdi, rd6i, rdLiJ, rd2i, hr, osl, Int.toNat_natCast, Nat.add_zero] at h) <;> (try (exfalso; (try simp only [goP, reduceCtorEq] at h) <;> (first | assumption | omega | contradiction | (rcases h with ⟨_, _⟩ <;> first | contradiction | omega) | (rcases h with h | h <;> first | contradiction | omega)))))
              | ((with_reducible refine tret.any ?_); first | refine tret.ok (by rfl) ?_ | refine tret.okN (by rfl) ?_)
              | ((with_reducible refine Due.mk ?_); (first | with_reducible rfl | omega | assumption | decide | ((try simp only [goS] at *) <;> (try intro h) <;> (try intro h') <;> (try simp only [goS] at *) <;> (try simp only [rdi, rd6i, rdLiJ, rd2i, hr, osl, Int.toNat_natCast, Nat.add_zero] at *) <;> (try simp only [rng]) <;> (first | assumption | omega)) | (exact due_app0 (by omega)) | (exact due_app (by omega)) | (intros; simp; done) | (intros; simp; omega)))
              | with_reducible refine Due.mk ?_
              | omega)
            refine ⟨j + 1, by omega, by omega, ?_⟩
            rw [ej]
            refine TWk.hE (by simp only [ehp, ej, ctR, ctC, ksC, ksR, keK, keJ, Nat.reduceLT, Nat.reduceEqDiff, Nat.lt_irrefl, Nat.not_lt_zero, reduceIte, List.cons_append, List.nil_append, Nat.reduceAdd]; rfl) (TWk.fcanonR env 0 (by rfl) ?_)
            repeat' (first
              | exact congrArg List.length fx
              | exact fx
              | with_reducible first | refine Tw.seq ?_ | refine Tw.reg ?_ | refine Tw.block ?_ | refine Tw.scope ?_ | refine Tw.skip ?_ | refine Tw.exit ?_ | refine Tw.ret ?_ | refine seqN ?_ | refine seqR ?_ | refine seqE ?_ | refine rndN ?_ | refine blkN ?_ | refine blkR ?_ | refine blkE1 ?_ | refine blkE0 (by kernel_rfl) ?_ | refine scpN ?_ | refine scpR ?_ | refine scpE ?_ | refine TOps.nil ?_ | exact Conj.nil | refine Conj.cons rfl ?_ | refine Conj.same ?_ | refine Conj.ask ?_ ?_ | refine Tw.regd env ?_ | refine TDr.nil ⟨by kernel_rfl, ?_⟩
              | ((with_reducible refine TOps.any ?_); first | refine TOps.frunP env (by rfl) (by rfl) ?_ ?_ | (refine TOps.known (by rfl) ?_; refine TOps.strip env (by rfl) (by rfl) ?_ ?_) | refine TOps.on (by rfl) (by rfl) ?_)
              | ((with_reducible refine TDr.any ?_); refine TDr.frunP env (by rfl) (by rfl) ?_ ?_)
              | ((with_reducible refine Tw.any ?_); first | refine Tw.condT (by rfl) ?_ | refine Tw.condF (by rfl) ?_)
              | ((first | ((with_reducible refine TOps.any ?_); (fail_if_success refine TOps.known (by rfl) ?_); refine TOps.ask (by rfl) (fun h => ?_) (fun h => ?_)) | ((with_reducible refine TDr.any ?_); (fail_if_success refine TDr.known (by first | rfl | assumption) ?_); refine TDr.ask (by rfl) (fun h hk => ?_) (fun h => ?_)) | ((with_reducible refine Tw.any ?_); refine Tw.cond (by rfl) (fun h => ?_) (fun h => ?_))) <;> (try simp only [goS] at h) <;> (try simp only [rdi, rd6i, rdLiJ, rd2i, Int.toNat_natCast, Nat.add_zero] at h))
              | ((with_reducible refine tret.any ?_); first | refine tret.ok (by rfl) ?_ | refine tret.okN (by rfl) ?_)
              | ((with_reducible refine Due.mk ?_); (first | with_reducible rfl | omega | assumption | decide | ((try simp only [goS] at *) <;> (try intro h) <;> (try intro h') <;> (try simp only [goS] at *) <;> (try simp only [rdi, rd6i, rdLiJ, rd2i, Int.toNat_natCast, Nat.add_zero] at *) <;> (try simp only [rng]) <;> (first | assumption | omega)) | (exact due_app0 (by omega)) | (exact due_app (by omega)) | (intros; simp; done) | (intros; simp; omega)))
              | with_reducible refine Due.mk ?_
              | omega)
      · have kdx := kdx hd
        clear pb nr nb ka keq kse ksn fze fzn prb
        have el : (fe j).length ≤ 1000 := by have := evl 0 (by omega); rw [List.length_append] at this; rw [ej]; omega
        rw [ej] at el
        by_cases hr : rem (c.n + 1) c.cr = 0
        · by_cases hs0 : (sh.getD j (0, 0)).1 = 0 ∧ (sh.getD j (0, 0)).2 = 0
          · have fx := f10 hd (fun h => h.2 (ej ▸ hs0))
            rw [ej] at hs0
            repeat' (first
              | with_reducible first | refine Tw.seq ?_ | refine Tw.reg ?_ | refine Tw.block ?_ | refine Tw.scope ?_ | refine Tw.skip ?_ | refine Tw.exit ?_ | refine Tw.ret ?_ | refine seqN ?_ | refine seqR ?_ | refine seqE ?_ | refine rndN ?_ | refine blkN ?_ | refine blkR ?_ | refine blkE1 ?_ | refine blkE0 (by kernel_rfl) ?_ | refine scpN ?_ | refine scpR ?_ | refine scpE ?_ | refine TOps.nil ?_ | exact Conj.nil | refine Conj.cons rfl ?_ | refine Conj.same ?_ | refine Conj.ask ?_ ?_ | refine Tw.regd env ?_ | refine TDr.nil ⟨by kernel_rfl, ?_⟩
              | ((with_reducible refine TOps.any ?_); first | refine TOps.frunP env (by rfl) (by rfl) ?_ ?_ | (refine TOps.known (by rfl) ?_; refine TOps.strip env (by rfl) (by rfl) ?_ ?_) | refine TOps.on (by rfl) (by rfl) ?_)
              | ((with_reducible refine TDr.any ?_); refine TDr.frunP env (by rfl) (by rfl) ?_ ?_)
              | ((with_reducible refine Tw.any ?_); first | refine Tw.condT (by rfl) ?_ | refine Tw.condF (by rfl) ?_)
              | ((first | ((with_reducible refine TOps.any ?_); (fail_if_success refine TOps.known (by rfl) ?_); refine TOps.ask (by rfl) (fun h => ?_) (fun h => ?_)) | ((with_reducible refine TDr.any ?_); (fail_if_success refine TDr.known (by first | rfl | assumption) ?_); refine TDr.ask (by rfl) (fun h hk => ?_) (fun h => ?_)) | ((with_reducible refine Tw.any ?_); refine Tw.cond (by rfl) (fun h => ?_) (fun h => ?_))) <;> (try simp only [goS] at h) <;> (try simp only [rdi, rd6i, rdLiJ, rd2i, hr, osl, Int.toNat_natCast, Nat.add_zero] at h) <;> (try (exfalso; (try simp only [goP, reduceCtorEq] at h) <;> (first | assumption | omega | contradiction | (rcases h with ⟨_, _⟩ <;> first | contradiction | omega) | (rcases h with h | h <;> first | contradiction | omega)))))
              | ((with_reducible refine tret.any ?_); first | refine tret.ok (by rfl) ?_ | refine tret.okN (by rfl) ?_)
              | ((with_reducible refine Due.mk ?_); (first | with_reducible rfl | omega | assumption | decide | ((try simp only [goS] at *) <;> (try intro h) <;> (try intro h') <;> (try simp only [goS] at *) <;> (try simp only [rdi, rd6i, rdLiJ, rd2i, hr, osl, Int.toNat_natCast, Nat.add_zero] at *) <;> (try simp only [rng]) <;> (first | assumption | omega)) | (exact due_app0 (by omega)) | (exact due_app (by omega)) | (intros; simp; done) | (intros; simp; omega)))
              | with_reducible refine Due.mk ?_
              | omega)
            refine ⟨j + 1, by omega, by omega, ?_⟩
            rw [ej]
            refine TWk.hE (by simp only [ehp, kdx, ctR, ctC, ksC, ksR, keK, keJ, Nat.reduceLT, Nat.reduceEqDiff, Nat.lt_irrefl, Nat.not_lt_zero, reduceIte, List.cons_append, List.nil_append, Nat.reduceAdd]; rfl) (TWk.fcanonR env 0 (by rfl) ?_)
            repeat' (first
              | exact congrArg List.length fx
              | exact fx
              | with_reducible first | refine Tw.seq ?_ | refine Tw.reg ?_ | refine Tw.block ?_ | refine Tw.scope ?_ | refine Tw.skip ?_ | refine Tw.exit ?_ | refine Tw.ret ?_ | refine seqN ?_ | refine seqR ?_ | refine seqE ?_ | refine rndN ?_ | refine blkN ?_ | refine blkR ?_ | refine blkE1 ?_ | refine blkE0 (by kernel_rfl) ?_ | refine scpN ?_ | refine scpR ?_ | refine scpE ?_ | refine TOps.nil ?_ | exact Conj.nil | refine Conj.cons rfl ?_ | refine Conj.same ?_ | refine Conj.ask ?_ ?_ | refine Tw.regd env ?_ | refine TDr.nil ⟨by kernel_rfl, ?_⟩
              | ((with_reducible refine TOps.any ?_); first | refine TOps.frunP env (by rfl) (by rfl) ?_ ?_ | (refine TOps.known (by rfl) ?_; refine TOps.strip env (by rfl) (by rfl) ?_ ?_) | refine TOps.on (by rfl) (by rfl) ?_)
              | ((with_reducible refine TDr.any ?_); refine TDr.frunP env (by rfl) (by rfl) ?_ ?_)
              | ((with_reducible refine Tw.any ?_); first | refine Tw.condT (by rfl) ?_ | refine Tw.condF (by rfl) ?_)
              | ((first | ((with_reducible refine TOps.any ?_); (fail_if_success refine TOps.known (by rfl) ?_); refine TOps.ask (by rfl) (fun h => ?_) (fun h => ?_)) | ((with_reducible refine TDr.any ?_); (fail_if_success refine TDr.known (by first | rfl | assumption) ?_); refine TDr.ask (by rfl) (fun h hk => ?_) (fun h => ?_)) | ((with_reducible refine Tw.any ?_); refine Tw.cond (by rfl) (fun h => ?_) (fun h => ?_))) <;> (try simp only [goS] at h) <;> (try simp only [rdi, rd6i, rdLiJ, rd2i, Int.toNat_natCast, Nat.add_zero] at h))
              | ((with_reducible refine tret.any ?_); first | refine tret.ok (by rfl) ?_ | refine tret.okN (by rfl) ?_)
              | ((with_reducible refine Due.mk ?_); (first | with_reducible rfl | omega | assumption | decide | ((try simp only [goS] at *) <;> (try intro h) <;> (try intro h') <;> (try simp only [goS] at *) <;> (try simp only [rdi, rd6i, rdLiJ, rd2i, Int.toNat_natCast, Nat.add_zero] at *) <;> (try simp only [rng]) <;> (first | assumption | omega)) | (exact due_app0 (by omega)) | (exact due_app (by omega)) | (intros; simp; done) | (intros; simp; omega)))
              | with_reducible refine Due.mk ?_
              | omega)
          · have fx := f11 hd ⟨hr, ej ▸ hs0⟩
            have ql := (congrArg List.length fx).trans (len_cut _ _)
            rw [ej] at hs0
            repeat' (first
              | exact apd _ _ el
              | with_reducible first | refine Tw.seq ?_ | refine Tw.reg ?_ | refine Tw.block ?_ | refine Tw.scope ?_ | refine Tw.skip ?_ | refine Tw.exit ?_ | refine Tw.ret ?_ | refine seqN ?_ | refine seqR ?_ | refine seqE ?_ | refine rndN ?_ | refine blkN ?_ | refine blkR ?_ | refine blkE1 ?_ | refine blkE0 (by kernel_rfl) ?_ | refine scpN ?_ | refine scpR ?_ | refine scpE ?_ | refine TOps.nil ?_ | exact Conj.nil | refine Conj.cons rfl ?_ | refine Conj.same ?_ | refine Conj.ask ?_ ?_ | refine Tw.regd env ?_ | refine TDr.nil ⟨by kernel_rfl, ?_⟩
              | ((with_reducible refine TOps.any ?_); first | refine TOps.frunP env (by rfl) (by rfl) ?_ ?_ | (refine TOps.known (by rfl) ?_; refine TOps.strip env (by rfl) (by rfl) ?_ ?_) | refine TOps.on (by rfl) (by rfl) ?_)
              | ((with_reducible refine TDr.any ?_); refine TDr.frunP env (by rfl) (by rfl) ?_ ?_)
              | ((with_reducible refine Tw.any ?_); first | refine Tw.condT (by rfl) ?_ | refine Tw.condF (by rfl) ?_)
              | ((first | ((with_reducible refine TOps.any ?_); (fail_if_success refine TOps.known (by rfl) ?_); refine TOps.ask (by rfl) (fun h => ?_) (fun h => ?_)) | ((with_reducible refine TDr.any ?_); (fail_if_success refine TDr.known (by first | rfl | assumption) ?_); refine TDr.ask (by rfl) (fun h hk => ?_) (fun h => ?_)) | ((with_reducible refine Tw.any ?_); refine Tw.cond (by rfl) (fun h => ?_) (fun h => ?_))) <;> (try simp only [goS] at h) <;> (try simp only [rdi, rd6i, rdLiJ, rd2i, hr, osl, Int.toNat_natCast, Nat.add_zero] at h) <;> (try (exfalso; (try simp only [goP, reduceCtorEq] at h) <;> (first | assumption | omega | contradiction | (rcases h with ⟨_, _⟩ <;> first | contradiction | omega) | (rcases h with h | h <;> first | contradiction | omega)))))
              | ((with_reducible refine tret.any ?_); first | refine tret.ok (by rfl) ?_ | refine tret.okN (by rfl) ?_)
              | ((with_reducible refine Due.mk ?_); (first | with_reducible rfl | omega | assumption | decide | ((try simp only [goS] at *) <;> (try intro h) <;> (try intro h') <;> (try simp only [goS] at *) <;> (try simp only [rdi, rd6i, rdLiJ, rd2i, hr, osl, Int.toNat_natCast, Nat.add_zero] at *) <;> (try simp only [rng]) <;> (first | assumption | omega)) | (exact due_app0 (by omega)) | (exact due_app (by omega)) | (intros; simp; done) | (intros; simp; omega)))
              | with_reducible refine Due.mk ?_
              | omega)
            refine ⟨j + 1, by omega, by omega, ?_⟩
            rw [ej]
            refine TWk.hE (by simp only [ehp, kdx, ctR, ctC, ksC, ksR, keK, keJ, Nat.reduceLT, Nat.reduceEqDiff, Nat.lt_irrefl, Nat.not_lt_zero, reduceIte, List.cons_append, List.nil_append, Nat.reduceAdd]; rfl) (TWk.fcanonG env (fun n => (List.range (n - 1)).map some ++ [some (n + 2)]) (by rfl) ?_)
            repeat' (first
              | exact ql
              | exact fx
              | with_reducible first | refine Tw.seq ?_ | refine Tw.reg ?_ | refine Tw.block ?_ | refine Tw.scope ?_ | refine Tw.skip ?_ | refine Tw.exit ?_ | refine Tw.ret ?_ | refine seqN ?_ | refine seqR ?_ | refine seqE ?_ | refine rndN ?_ | refine blkN ?_ | refine blkR ?_ | refine blkE1 ?_ | refine blkE0 (by kernel_rfl) ?_ | refine scpN ?_ | refine scpR ?_ | refine scpE ?_ | refine TOps.nil ?_ | exact Conj.nil | refine Conj.cons rfl ?_ | refine Conj.same ?_ | refine Conj.ask ?_ ?_ | refine Tw.regd env ?_ | refine TDr.nil ⟨by kernel_rfl, ?_⟩
              | ((with_reducible refine TOps.any ?_); first | refine TOps.frunP env (by rfl) (by rfl) ?_ ?_ | (refine TOps.known (by rfl) ?_; refine TOps.strip env (by rfl) (by rfl) ?_ ?_) | refine TOps.on (by rfl) (by rfl) ?_)
              | ((with_reducible refine TDr.any ?_); refine TDr.frunP env (by rfl) (by rfl) ?_ ?_)
              | ((with_reducible refine Tw.any ?_); first | refine Tw.condT (by rfl) ?_ | refine Tw.condF (by rfl) ?_)
              | ((first | ((with_reducible refine TOps.any ?_); (fail_if_success refine TOps.known (by rfl) ?_); refine TOps.ask (by rfl) (fun h => ?_) (fun h => ?_)) | ((with_reducible refine TDr.any ?_); (fail_if_success refine TDr.known (by first | rfl | assumption) ?_); refine TDr.ask (by rfl) (fun h hk => ?_) (fun h => ?_)) | ((with_reducible refine Tw.any ?_); refine Tw.cond (by rfl) (fun h => ?_) (fun h => ?_))) <;> (try simp only [goS] at h) <;> (try simp only [rdi, rd6i, rdLiJ, rd2i, Int.toNat_natCast, Nat.add_zero] at h))
              | ((with_reducible refine tret.any ?_); first | refine tret.ok (by rfl) ?_ | refine tret.okN (by rfl) ?_)
              | ((with_reducible refine Due.mk ?_); (first | with_reducible rfl | omega | assumption | decide | ((try simp only [goS] at *) <;> (try intro h) <;> (try intro h') <;> (try simp only [goS] at *) <;> (try simp only [rdi, rd6i, rdLiJ, rd2i, Int.toNat_natCast, Nat.add_zero] at *) <;> (try simp only [rng]) <;> (first | assumption | omega)) | (exact due_app0 (by omega)) | (exact due_app (by omega)) | (intros; simp; done) | (intros; simp; omega)))
              | with_reducible refine Due.mk ?_
              | omega)
        · have fx := f10 hd (fun h => hr h.1)
          repeat' (first
            | with_reducible first | refine Tw.seq ?_ | refine Tw.reg ?_ | refine Tw.block ?_ | refine Tw.scope ?_ | refine Tw.skip ?_ | refine Tw.exit ?_ | refine Tw.ret ?_ | refine seqN ?_ | refine seqR ?_ | refine seqE ?_ | refine rndN ?_ | refine blkN ?_ | refine blkR ?_ | refine blkE1 ?_ | refine blkE0 (by kernel_rfl) ?_ | refine scpN ?_ | refine scpR ?_ | refine scpE ?_ | refine TOps.nil ?_ | exact Conj.nil | refine Conj.cons rfl ?_ | refine Conj.same ?_ | refine Conj.ask ?_ ?_ | refine Tw.regd env ?_ | refine TDr.nil ⟨by kernel_rfl, ?_⟩
            | ((with_reducible refine TOps.any ?_); first | refine TOps.frunP env (by rfl) (by rfl) ?_ ?_ | (refine TOps.known (by rfl) ?_; refine TOps.strip env (by rfl) (by rfl) ?_ ?_) | refine TOps.on (by rfl) (by rfl) ?_)
            | ((with_reducible refine TDr.any ?_); refine TDr.frunP env (by rfl) (by rfl) ?_ ?_)
            | ((with_reducible refine Tw.any ?_); first | refine Tw.condT (by rfl) ?_ | refine Tw.condF (by rfl) ?_)
            | ((first | ((with_reducible refine TOps.any ?_); (fail_if_success refine TOps.known (by rfl) ?_); refine TOps.ask (by rfl) (fun h => ?_) (fun h => ?_)) | ((with_reducible refine TDr.any ?_); (fail_if_success refine TDr.known (by first | rfl | assumption) ?_); refine TDr.ask (by rfl) (fun h hk => ?_) (fun h => ?_)) | ((with_reducible refine Tw.any ?_); refine Tw.cond (by rfl) (fun h => ?_) (fun h => ?_))) <;> (try simp only [goS] at h) <;> (try simp only [rdi, rd6i, rdLiJ, rd2i, hr, osl, Int.toNat_natCast, Nat.add_zero] at h) <;> (try (exfalso; (try simp only [goP, reduceCtorEq] at h) <;> (first | assumption | omega | contradiction | (rcases h with ⟨_, _⟩ <;> first | contradiction | omega) | (rcases h with h | h <;> first | contradiction | omega)))))
            | ((with_reducible refine tret.any ?_); first | refine tret.ok (by rfl) ?_ | refine tret.okN (by rfl) ?_)
            | ((with_reducible refine Due.mk ?_); (first | with_reducible rfl | omega | assumption | decide | ((try simp only [goS] at *) <;> (try intro h) <;> (try intro h') <;> (try simp only [goS] at *) <;> (try simp only [rdi, rd6i, rdLiJ, rd2i, hr, osl, Int.toNat_natCast, Nat.add_zero] at *) <;> (try simp only [rng]) <;> (first | assumption | omega)) | (exact due_app0 (by omega)) | (exact due_app (by omega)) | (intros; simp; done) | (intros; simp; omega)))
            | with_reducible refine Due.mk ?_
            | omega)
          refine ⟨j + 1, by omega, by omega, ?_⟩
          rw [ej]
          refine TWk.hE (by simp only [ehp, kdx, ctR, ctC, ksC, ksR, keK, keJ, Nat.reduceLT, Nat.reduceEqDiff, Nat.lt_irrefl, Nat.not_lt_zero, reduceIte, List.cons_append, List.nil_append, Nat.reduceAdd]; rfl) (TWk.fcanonR env 0 (by rfl) ?_)
          repeat' (first
            | exact congrArg List.length fx
            | exact fx
            | with_reducible first | refine Tw.seq ?_ | refine Tw.reg ?_ | refine Tw.block ?_ | refine Tw.scope ?_ | refine Tw.skip ?_ | refine Tw.exit ?_ | refine Tw.ret ?_ | refine seqN ?_ | refine seqR ?_ | refine seqE ?_ | refine rndN ?_ | refine blkN ?_ | refine blkR ?_ | refine blkE1 ?_ | refine blkE0 (by kernel_rfl) ?_ | refine scpN ?_ | refine scpR ?_ | refine scpE ?_ | refine TOps.nil ?_ | exact Conj.nil | refine Conj.cons rfl ?_ | refine Conj.same ?_ | refine Conj.ask ?_ ?_ | refine Tw.regd env ?_ | refine TDr.nil ⟨by kernel_rfl, ?_⟩
            | ((with_reducible refine TOps.any ?_); first | refine TOps.frunP env (by rfl) (by rfl) ?_ ?_ | (refine TOps.known (by rfl) ?_; refine TOps.strip env (by rfl) (by rfl) ?_ ?_) | refine TOps.on (by rfl) (by rfl) ?_)
            | ((with_reducible refine TDr.any ?_); refine TDr.frunP env (by rfl) (by rfl) ?_ ?_)
            | ((with_reducible refine Tw.any ?_); first | refine Tw.condT (by rfl) ?_ | refine Tw.condF (by rfl) ?_)
            | ((first | ((with_reducible refine TOps.any ?_); (fail_if_success refine TOps.known (by rfl) ?_); refine TOps.ask (by rfl) (fun h => ?_) (fun h => ?_)) | ((with_reducible refine TDr.any ?_); (fail_if_success refine TDr.known (by first | rfl | assumption) ?_); refine TDr.ask (by rfl) (fun h hk => ?_) (fun h => ?_)) | ((with_reducible refine Tw.any ?_); refine Tw.cond (by rfl) (fun h => ?_) (fun h => ?_))) <;> (try simp only [goS] at h) <;> (try simp only [rdi, rd6i, rdLiJ, rd2i, Int.toNat_natCast, Nat.add_zero] at h))
            | ((with_reducible refine tret.any ?_); first | refine tret.ok (by rfl) ?_ | refine tret.okN (by rfl) ?_)
            | ((with_reducible refine Due.mk ?_); (first | with_reducible rfl | omega | assumption | decide | ((try simp only [goS] at *) <;> (try intro h) <;> (try intro h') <;> (try simp only [goS] at *) <;> (try simp only [rdi, rd6i, rdLiJ, rd2i, Int.toNat_natCast, Nat.add_zero] at *) <;> (try simp only [rng]) <;> (first | assumption | omega)) | (exact due_app0 (by omega)) | (exact due_app (by omega)) | (intros; simp; done) | (intros; simp; omega)))
            | with_reducible refine Due.mk ?_
            | omega)
    ) : Goal := hR
theorem cfeed_c_A {n8 K : Nat} {G : Prop} (h8 : ∀ k8, k8 = K → HideP G → cfeed_c_P n8 := by
    intro k8 hk8 g8
    intro S u c st dr sh fm so ck hn ok e8
    dsimp only [Due] at hn
    have hu := so.un
    have oZ := so.Z
    have on := ck.n
    have oci := ck.ci
    have ocr := ck.cr
    have kl := ck.kl
    have tl := so.tl
    have ll := so.ll
    have osl := ok.sl
    have ofl := ok.fl
    have chk := check_c S u c st dr sh fm hu (by dsimp only [Due]; omega) (by dsimp only [Due]; omega) ok
    refine tc env __control_Controller__Feed_s (by rfl) ?_
    dsimp only [__control_Controller__Feed_c]
    obtain ⟨hp, ehp⟩ : ∃ hp : Nat → List (Option (TRow A)), hp = fun i => ctR S u { c with n := c.n + 1, ks := keK S c fm i } ++ [some (.cells [.int .i64 (c.n + 1), .int .i64 st, .lst E2i sh, .lst ELiJ fm, .int .i64 dr]), some (.arr E6i (feE S c sh fm i))] := ⟨_, rfl⟩
    obtain ⟨hz, ehz⟩ : ∃ hz : Nat → Nat → List (Option (TRow A)), hz = fun i z => ctR S u { c with n := c.n + 1, ks := keJ S c fm i z } ++ [some (.cells [.int .i64 (c.n + 1), .int .i64 st, .lst E2i sh, .lst ELiJ fm, .int .i64 dr]), some (.arr E6i (feE S c sh fm i ++ fzE S c.ks fm c.n i z))] := ⟨_, rfl⟩
    obtain ⟨hF, ehF⟩ : ∃ hF : Nat → List (Nat × TV A), hF = fun i : Nat => [(40, .int .i64 (i : Int)), (39, .int .i64 (u : Int)), (7, .sla 6 (u + 3) 0 (feE S c sh fm i).length), (3, .ptr (u + 2) 0)] := ⟨_, rfl⟩
    obtain ⟨hG, ehG⟩ : ∃ hG : Nat → Nat → List (Nat × TV A), hG = fun i z : Nat => [(62, .int .i64 (z : Int)), (61, .int .i64 (S.Z : Int)), (7, .sla 6 (u + 3) 0 (feE S c sh fm i ++ fzE S c.ks fm c.n i z).length)] := ⟨_, rfl⟩
    obtain ⟨w, hw⟩ : ∃ w, w = u := ⟨_, rfl⟩
    rw [← hw] at ck ok osl ofl
    subst e8
    refine Tw.hE (by simp only [ctR, ctC, ksC, ksR, List.cons_append, List.nil_append, Nat.reduceAdd]; rfl) ?_
    simp only [ctR, ctC, ksC, ksR, List.cons_append, List.nil_append, Nat.reduceAdd] at chk
    repeat' (first
      | ((with_reducible refine TOps.any ?_); refine callI env _ (chk) (by rfl) (by rfl) (by rfl) (by simp only [List.length_cons, List.length_nil, Nat.reduceAdd]; rfl) (by rfl) (by rfl) (by rfl) (by rfl) (by rfl) ?_)
      | with_reducible first | refine Tw.seq ?_ | refine Tw.reg ?_ | refine Tw.block ?_ | refine Tw.scope ?_ | refine Tw.skip ?_ | refine Tw.exit ?_ | refine Tw.ret ?_ | refine seqN ?_ | refine seqR ?_ | refine seqE ?_ | refine rndN ?_ | refine blkN ?_ | refine blkR ?_ | refine blkE1 ?_ | refine blkE0 (by kernel_rfl) ?_ | refine scpN ?_ | refine scpR ?_ | refine scpE ?_ | refine TOps.nil ?_ | exact Conj.nil | refine Conj.cons rfl ?_ | refine Conj.same ?_ | refine Conj.ask ?_ ?_ | refine Tw.regd env ?_ | refine TDr.nil ⟨by kernel_rfl, ?_⟩
      | ((with_reducible refine TOps.any ?_); first | refine TOps.frunP env (by rfl) (by rfl) ?_ ?_ | (refine TOps.known (by rfl) ?_; refine TOps.strip env (by rfl) (by rfl) ?_ ?_) | refine TOps.on (by rfl) (by rfl) ?_)
      | ((with_reducible refine TDr.any ?_); refine TDr.frunP env (by rfl) (by rfl) ?_ ?_)
      | ((with_reducible refine Tw.any ?_); first | refine Tw.condT (by rfl) ?_ | refine Tw.condF (by rfl) ?_)
      | ((first | ((with_reducible refine TOps.any ?_); (fail_if_success refine TOps.known (by rfl) ?_); refine TOps.ask (by rfl) (fun h => ?_) (fun h => ?_)) | ((with_reducible refine TDr.any ?_); (fail_if_success refine TDr.known (by first | rfl | assumption) ?_); refine TDr.ask (by rfl) (fun h hk => ?_) (fun h => ?_)) | ((with_reducible refine Tw.any ?_); refine Tw.cond (by rfl) (fun h => ?_) (fun h => ?_))) <;> (try simp only [goS] at h) <;> (try simp only [rdi, rd6i, rdLiJ, rd2i, Int.toNat_natCast, Nat.add_zero] at h) <;> (try (exfalso; (try simp only [goP, reduceCtorEq] at h) <;> (first | assumption | omega | contradiction | (rcases h with ⟨_, _⟩ <;> first | contradiction | omega) | (rcases h with h | h <;> first | contradiction | omega)))))
      | ((with_reducible refine tret.any ?_); first | refine tret.ok (by rfl) ?_ | refine tret.okN (by rfl) ?_)
      | ((with_reducible refine Due.mk ?_); (first | with_reducible rfl | omega | assumption | decide | ((try simp only [goS] at *) <;> (try intro h) <;> (try intro h') <;> (try simp only [goS] at *) <;> (try simp only [rdi, rd6i, rdLiJ, rd2i, Int.toNat_natCast, Nat.add_zero] at *) <;> (try simp only [rng]) <;> (first | assumption | omega)) | (exact due_app0 (by omega)) | (exact due_app (by omega)) | (intros; simp; done) | (intros; simp; omega)))
      | with_reducible refine Due.mk ?_
      | omega)
    refine Tw.loopK [0] (fun i : Nat => i ≤ w) (fun i => w - i) (fun i => hF i) (fun i => hp i) ⟨0, by omega, ?_⟩ (fun i hi => ?_)
    · rw [ehF]
      refine TWk.hE (by simp only [ehp, ctR, ctC, ksC, ksR, keK, Nat.not_lt_zero, reduceIte, List.cons_append, List.nil_append, Nat.reduceAdd]; rfl) (TWk.fcanonG env (fun n => (List.range (n - 1)).map some ++ [none]) (by rfl) ?_)
      repeat' (first
        | exact rfl
        | with_reducible first | refine Tw.seq ?_ | refine Tw.reg ?_ | refine Tw.block ?_ | refine Tw.scope ?_ | refine Tw.skip ?_ | refine Tw.exit ?_ | refine Tw.ret ?_ | refine seqN ?_ | refine seqR ?_ | refine seqE ?_ | refine rndN ?_ | refine blkN ?_ | refine blkR ?_ | refine blkE1 ?_ | refine blkE0 (by kernel_rfl) ?_ | refine scpN ?_ | refine scpR ?_ | refine scpE ?_ | refine TOps.nil ?_ | exact Conj.nil | refine Conj.cons rfl ?_ | refine Conj.same ?_ | refine Conj.ask ?_ ?_ | refine Tw.regd env ?_ | refine TDr.nil ⟨by kernel_rfl, ?_⟩
        | ((with_reducible refine TOps.any ?_); first | refine TOps.frunP env (by rfl) (by rfl) ?_ ?_ | (refine TOps.known (by rfl) ?_; refine TOps.strip env (by rfl) (by rfl) ?_ ?_) | refine TOps.on (by rfl) (by rfl) ?_)
        | ((with_reducible refine TDr.any ?_); refine TDr.frunP env (by rfl) (by rfl) ?_ ?_)
        | ((with_reducible refine Tw.any ?_); first | refine Tw.condT (by rfl) ?_ | refine Tw.condF (by rfl) ?_)
        | ((first | ((with_reducible refine TOps.any ?_); (fail_if_success refine TOps.known (by rfl) ?_); refine TOps.ask (by rfl) (fun h => ?_) (fun h => ?_)) | ((with_reducible refine TDr.any ?_); (fail_if_success refine TDr.known (by first | rfl | assumption) ?_); refine TDr.ask (by rfl) (fun h hk => ?_) (fun h => ?_)) | ((with_reducible refine Tw.any ?_); refine Tw.cond (by rfl) (fun h => ?_) (fun h => ?_))) <;> (try simp only [goS] at h) <;> (try simp only [rdi, rd6i, rdLiJ, rd2i, Int.toNat_natCast, Nat.add_zero] at h))
        | ((with_reducible refine tret.any ?_); first | refine tret.ok (by rfl) ?_ | refine tret.okN (by rfl) ?_)
        | ((with_reducible refine Due.mk ?_); (first | with_reducible rfl | omega | assumption | decide | ((try simp only [goS] at *) <;> (try intro h) <;> (try intro h') <;> (try simp only [goS] at *) <;> (try simp only [rdi, rd6i, rdLiJ, rd2i, Int.toNat_natCast, Nat.add_zero] at *) <;> (try simp only [rng]) <;> (first | assumption | omega)) | (exact due_app0 (by omega)) | (exact due_app (by omega)) | (intros; simp; done) | (intros; simp; omega)))
        | with_reducible refine Due.mk ?_
        | omega)
    rw [ehF]
    clear chk
    rcases Nat.lt_or_ge i w with hi | hi
    · rcases Nat.lt_or_ge i k8 with h8k | h8k
      · exact cfeed_c_R
      · first
        | (exfalso; omega)
        | (subst hk8; revert S c st dr sh fm hp hz hF hG w i; exact g8.out)
    · obtain rfl : w = i := by omega
      refine Tw.hE (by simp only [ehp, hw, ctR, ctC, ksC, ksR, keK, Nat.reduceLT, reduceIte, List.cons_append, List.nil_append, Nat.reduceAdd]; rfl) ?_
      repeat' (first
        | ((with_reducible refine Tw.retI ?_); refine Tw.gcN env 5 [0, 1, 2, 4] [4, 5] (by rfl) (by rfl) (by rfl) ?_ (Tw.ret ?_))
        | ((with_reducible refine Tw.retI ?_); refine Tw.gcN env 6 [0, 1, 2, 3, 5] [4, 5] (by rfl) (by rfl) (by rfl) ?_ (Tw.ret ?_))
        | ((with_reducible refine Tw.retI ?_); refine Tw.gcN env 7 [0, 1, 2, 3, 4, 6] [4, 5] (by rfl) (by rfl) (by rfl) ?_ (Tw.ret ?_))
        | ((with_reducible refine Tw.retI ?_); refine Tw.gcN env 8 [0, 1, 2, 3, 4, 5, 7] [4, 5] (by rfl) (by rfl) (by rfl) ?_ (Tw.ret ?_))
        | ((with_reducible refine Tw.retI ?_); refine Tw.gcN env 9 [0, 1, 2, 3, 4, 5, 6, 8] [4, 5] (by rfl) (by rfl) (by rfl) ?_ (Tw.ret ?_))
        | ((with_reducible refine Tw.retI ?_); refine Tw.gcN env 10 [0, 1, 2, 3, 4, 5, 6, 7, 9] [4, 5] (by rfl) (by rfl) (by rfl) ?_ (Tw.ret ?_))
        | ((with_reducible refine Tw.retI ?_); refine Tw.gcN env 11 [0, 1, 2, 3, 4, 5, 6, 7, 8, 10] [4, 5] (by rfl) (by rfl) (by rfl) ?_ (Tw.ret ?_))
        | ((with_reducible refine Tw.retI ?_); refine Tw.gcN env 12 [0, 1, 2, 3, 4, 5, 6, 7, 8, 9, 11] [4, 5] (by rfl) (by rfl) (by rfl) ?_ (Tw.ret ?_))
        | with_reducible first | refine Tw.seq ?_ | refine Tw.reg ?_ | refine Tw.block ?_ | refine Tw.scope ?_ | refine Tw.skip ?_ | refine Tw.exit ?_ | refine Tw.ret ?_ | refine seqN ?_ | refine seqR ?_ | refine seqE ?_ | refine rndN ?_ | refine blkN ?_ | refine blkR ?_ | refine blkE1 ?_ | refine blkE0 (by kernel_rfl) ?_ | refine scpN ?_ | refine scpR ?_ | refine scpE ?_ | refine TOps.nil ?_ | exact Conj.nil | refine Conj.cons rfl ?_ | refine Conj.same ?_ | refine Conj.ask ?_ ?_ | refine Tw.regd env ?_ | refine TDr.nil ⟨by kernel_rfl, ?_⟩
        | ((with_reducible refine TOps.any ?_); first | refine TOps.frunP env (by rfl) (by rfl) ?_ ?_ | (refine TOps.known (by rfl) ?_; refine TOps.strip env (by rfl) (by rfl) ?_ ?_) | refine TOps.on (by rfl) (by rfl) ?_)
        | ((with_reducible refine TDr.any ?_); refine TDr.frunP env (by rfl) (by rfl) ?_ ?_)
        | ((with_reducible refine Tw.any ?_); first | refine Tw.condT (by rfl) ?_ | refine Tw.condF (by rfl) ?_)
        | ((first | ((with_reducible refine TOps.any ?_); (fail_if_success refine TOps.known (by rfl) ?_); refine TOps.ask (by rfl) (fun h => ?_) (fun h => ?_)) | ((with_reducible refine TDr.any ?_); (fail_if_success refine TDr.known (by first | rfl | assumption) ?_); refine TDr.ask (by rfl) (fun h hk => ?_) (fun h => ?_)) | ((with_reducible refine Tw.any ?_); refine Tw.cond (by rfl) (fun h => ?_) (fun h => ?_))) <;> (try simp only [goS] at h) <;> (try simp only [rdi, rd6i, rdLiJ, rd2i, hw, Int.toNat_natCast, Nat.add_zero] at h) <;> (try (exfalso; (try simp only [goP, reduceCtorEq] at h) <;> (first | assumption | omega | contradiction | (rcases h with ⟨_, _⟩ <;> first | contradiction | omega) | (rcases h with h | h <;> first | contradiction | omega)))))
        | ((with_reducible refine tret.any ?_); first | refine tret.ok (by rfl) ?_ | refine tret.okN (by rfl) ?_)
        | ((with_reducible refine Due.mk ?_); (first | with_reducible rfl | omega | assumption | decide | ((try simp only [goS] at *) <;> (try intro h) <;> (try intro h') <;> (try simp only [goS] at *) <;> (try simp only [rdi, rd6i, rdLiJ, rd2i, hw, Int.toNat_natCast, Nat.add_zero] at *) <;> (try simp only [rng]) <;> (first | assumption | omega)) | (exact due_app0 (by omega)) | (exact due_app (by omega)) | (intros; simp; done) | (intros; simp; omega)))
        | with_reducible refine Due.mk ?_
        | omega)
      rw [hw]
      exact ⟨rfl, rfl⟩) : HideP G → cfeed_c_P n8 := h8 K rfl
theorem cfeed_c_1 : cfeed_c_P 1 := (cfeed_c_A (G := True) (K := 9) : HideP True → cfeed_c_P 1) ⟨trivial⟩
theorem cfeed_c_2 : cfeed_c_P 2 := (cfeed_c_A (G := True) (K := 9) : HideP True → cfeed_c_P 2) ⟨trivial⟩
theorem cfeed_c_3 : cfeed_c_P 3 := (cfeed_c_A (G := True) (K := 9) : HideP True → cfeed_c_P 3) ⟨trivial⟩
theorem cfeed_c_4 : cfeed_c_P 4 := (cfeed_c_A (G := True) (K := 9) : HideP True → cfeed_c_P 4) ⟨trivial⟩
end Go.Proofs.Ytbaepacihkgalaa
