/- Presses: a sheet is fed. -/
import Derived.Test.YtbaepacihkgalaaPrsG
namespace Go.Proofs.Ytbaepacihkgalaa
open Go Go.Lite
set_option linter.unusedVariables false
set_option linter.unusedSimpArgs false
set_option maxRecDepth 100000
set_option maxHeartbeats 100000000
-- @long8
-- @simp rdi rd6i rdLiJ

/-- A unit whose first zones have inked. -/
def nkU (a : Un) (ld : List Int) : Nat → Un
  | 0 => a
  | z + 1 => inkU (nkU a ld z) z (ld.getD z 0)
/-- The film on a sheet, zone by zone, when a unit has printed. -/
def smU (a : Un) (ld : List Int) (l : List Int) : Nat → List Int
  | 0 => l
  | z + 1 => (smU a ld l z).set z ((smU a ld l z).getD z 0 + (nkU a ld (z + 1)).fl.getD z 0)

def mv1 (us : Nat → Un) (k : Nat) : Un := mvU (us k) (us k).dx (us k).dy
/-- A unit that has printed. -/
def dnU (S : Su) (us : Nat → Un) (k : Nat) : Un := nkU (mv1 us k) (S.ld.getD k []) S.Z
def fe0 (S : Su) (us : Nat → Un) (k j : Nat) : Un := if j < k then dnU S us j else us j
def fe1 (S : Su) (us : Nat → Un) (k z j : Nat) : Un := if j < k then dnU S us j else if j = k then nkU (mv1 us j) (S.ld.getD j []) z else us j
theorem fe1_next {S : Su} {us : Nat → Un} {k : Nat} : fe1 S us k S.Z = fe0 S us (k + 1) := by
  funext j
  unfold fe1 fe0
  by_cases h1 : j < k
  · rw [if_pos h1, if_pos (by omega)]
  · rw [if_neg h1]
    by_cases h2 : j = k
    · rw [if_pos h2, if_pos (by omega)]; rfl
    · rw [if_neg h2, if_neg (by omega)]
def smK (S : Su) (us : Nat → Un) : Nat → List Int
  | 0 => List.replicate S.Z 0
  | k + 1 => smU (mv1 us k) (S.ld.getD k []) (smK S us k) S.Z
def shK (S : Su) (us : Nat → Un) (k : Nat) : List (Int × Int) := tab k fun i => ((dnU S us i).x, (dnU S us i).y)
def flC (S : Su) (us : Nat → Un) : Nat → Nat → List (TV A)
  | 0, _ => []
  | k + 1, i => .lst Ei (dnU S us i).fl :: flC S us k (i + 1)
def ps1 (S : Su) (p : Ps) (us : Nat → Un) : Ps := { n := p.n + 1, s := p.s + 1, j := p.j, us := us }
/-- The record that is being written, when k units have printed. -/
def recR (S : Su) (u : Nat) (p : Ps) : Nat → List Int → List (Option (TRow A))
  | 0, sm => [some (.cells [.int .i64 (0 : Int), .int .i64 (0 : Int), .nils, .nils, .int .i64 (0 : Int)]), some (.cells [.int .i64 (p.n + 1), .int .i64 (1 : Int), .nils, .nils, .int .i64 (0 : Int)]), some (.arr Ei sm)]
  | k + 1, sm => [some (.cells [.int .i64 (0 : Int), .int .i64 (0 : Int), .nils, .nils, .int .i64 (0 : Int)]), some (.cells [.int .i64 (p.n + 1), .int .i64 (1 : Int), .sla 2 (2 * u + 5) 0 (k + 1), .sl 1 (2 * u + 6) 0 (k + 1), .int .i64 (0 : Int)]), some (.arr Ei sm), some (.arr E2i (shK S p.us (k + 1))), some (.cells (flC S p.us (k + 1) 0))]
def fedR (S : Su) (u : Nat) (p : Ps) (k : Nat) (us : Nat → Un) (sm : List Int) : List (Option (TRow A)) := prR S u (ps1 S p us) ++ recR S u p k sm

theorem nk_ok {Z : Nat} {a : Un} {ld : List Int} (ok : UOk Z a) (hl : ∀ z, z < Z → 0 ≤ ld.getD z 0 ∧ ld.getD z 0 ≤ 8) : ∀ z, z ≤ Z → UOk Z (nkU a ld z)
  | 0, _ => ok
  | z + 1, h => by
    have ih := nk_ok ok hl z (by omega)
    refine ⟨ih.x, ih.y, ih.dx, ih.dy, ih.gn, ih.kl, ?_, ih.k, fun i hi => ?_⟩
    · simp only [nkU, inkU, List.length_set]; exact ih.fl
    · simp only [nkU, inkU]
      by_cases e : i = z
      · subst e
        rw [getD_set_eq (by rw [ih.fl]; omega)]
        exact inkV_ok (ih.f i hi) (ih.k i hi) ih.gn (hl i hi)
      · rw [getD_set_ne (by omega)]
        exact ih.f i hi
theorem mv_ok {Z : Nat} {a : Un} {x y : Int} (ok : UOk Z a) : UOk Z (mvU a x y) := ⟨cut_le _, cut_le _, ok.dx, ok.dy, ok.gn, ok.kl, ok.fl, ok.k, ok.f⟩

theorem fe1_at {S : Su} {us : Nat → Un} {k z : Nat} : fe1 S us k z k = nkU (mv1 us k) (S.ld.getD k []) z := by
  unfold fe1; rw [if_neg (by omega), if_pos rfl]
theorem fe0_at {S : Su} {us : Nat → Un} {k : Nat} : fe0 S us k k = us k := by unfold fe0; rw [if_neg (by omega)]
theorem smU_in {Z : Nat} {a : Un} {ld l : List Int} {B : Int} (ok : UOk Z a) (hd : ∀ z, z < Z → 0 ≤ ld.getD z 0 ∧ ld.getD z 0 ≤ 8) (len : l.length = Z) (hl : ∀ i, i < Z → 0 ≤ l.getD i 0 ∧ l.getD i 0 ≤ B) :
    ∀ z, z ≤ Z → (smU a ld l z).length = Z ∧ ∀ i, i < Z → 0 ≤ (smU a ld l z).getD i 0 ∧ (smU a ld l z).getD i 0 ≤ B + (if i < z then 24000 else 0)
  | 0, _ => ⟨len, fun i hi => by have := hl i hi; simp only [smU, Nat.not_lt_zero, if_false]; omega⟩
  | z + 1, h => by
    have ih := smU_in ok hd len hl z (by omega)
    refine ⟨by simp only [smU, List.length_set]; exact ih.1, fun i hi => ?_⟩
    have f := (nk_ok ok hd (z + 1) h).f
    simp only [smU]
    have hi' := ih.2 i hi
    by_cases e : i = z
    · subst e
      have fi := f i hi
      rw [getD_set_eq (by rw [ih.1]; omega), if_pos (by omega)]
      rw [if_neg (by omega)] at hi'
      omega
    · rw [getD_set_ne (by omega)]
      by_cases h1 : i < z
      · rw [if_pos h1] at hi'; rw [if_pos (by omega)]; exact hi'
      · rw [if_neg h1] at hi'; rw [if_neg (by omega)]; exact hi'
theorem smK_in {S : Su} {u : Nat} {p : Ps} (so : SuOk S u) (ok : ∀ i, i < u → UOk S.Z (p.us i)) : ∀ k, k ≤ u → (smK S p.us k).length = S.Z ∧ ∀ i, i < S.Z → 0 ≤ (smK S p.us k).getD i 0 ∧ (smK S p.us k).getD i 0 ≤ 24000 * (k : Int)
  | 0, _ => ⟨List.length_replicate, fun i hi => by
    rw [smK, getD_repl hi]; omega⟩
  | k + 1, h => by
    have ih := smK_in so ok k (by omega)
    have := smU_in (mv_ok (x := (p.us k).dx) (y := (p.us k).dy) (ok k (by omega))) (so.l k (by omega)).2 ih.1 ih.2 S.Z (Nat.le_refl _)
    refine ⟨this.1, fun i hi => ?_⟩
    have h2 := this.2 i hi
    rw [if_pos hi] at h2
    have e : smK S p.us (k + 1) = smU (mvU (p.us k) (p.us k).dx (p.us k).dy) (S.ld.getD k []) (smK S p.us k) S.Z := rfl
    rw [e]
    omega
def mxL (l : List Int) : Nat → Int
  | 0 => 0
  | z + 1 => max (mxL l z) (l.getD z 0)
theorem mxL_in {l : List Int} {B : Int} (hB : 0 ≤ B) (h : ∀ i, i < l.length → l.getD i 0 ≤ B) : ∀ z, z ≤ l.length → 0 ≤ mxL l z ∧ mxL l z ≤ B
  | 0, _ => ⟨Int.le_refl _, hB⟩
  | z + 1, hz => by
    have ih := mxL_in hB h z (by omega)
    have := h z (by omega)
    simp only [mxL]
    omega
def flL (S : Su) (us : Nat → Un) : Nat → Nat → List (List Int)
  | 0, _ => []
  | k + 1, i => (dnU S us i).fl :: flL S us k (i + 1)
theorem flL_len {S : Su} {us : Nat → Un} : ∀ {n i : Nat}, (flL S us n i).length = n
  | 0, _ => rfl
  | n + 1, i => by rw [flL, List.length_cons, flL_len]
/-- The rows when all units have printed and the record's lists are done. -/
def fdnR (S : Su) (u : Nat) (p : Ps) : List (Option (TRow A)) := prR S u (ps1 S p (fe0 S p.us u)) ++ [some (.cells [.int .i64 (0 : Int), .int .i64 (0 : Int), .nils, .nils, .int .i64 (0 : Int)]), some (.cells [.int .i64 (p.n + 1), .int .i64 (1 : Int), .lst E2i (shK S p.us u), .sla 1 (2 * u + 6) 0 u, .int .i64 (0 : Int)]), some (.arr Ei (smK S p.us u)), none, some (.arr ELiJ (flL S p.us u 0))]
/-- A press behind a sheet, and what is said of the sheet. -/
def fedP (S : Su) (u : Nat) (p : Ps) : Ps := { n := p.n + 1, s := p.s + 1, j := if 0 < p.j then p.j - 1 else p.j, us := fe0 S p.us u }
def fedS (S : Su) (u : Nat) (p : Ps) : Int := if 0 < p.j then 2 else if goodQ S u (ps1 S p (fe0 S p.us u)) then 0 else 1
def fedD (S : Su) (u : Nat) (p : Ps) : Int := p.n + 1 + 50 + quo (mxL (smK S p.us u) S.Z) 500

def feed_c_P (n8 : Nat) : Prop := ∀ (S : Su) (u : Nat) (p : Ps) (so : SuOk S u) (ok : PsOk S u p) (hn : p.n < 4000) (e8 : u = n8), TC R Try.prog __press_Press__Feed_f [.ptr 0 0] (prR S u p) (fun v X => v = .tup [.agg [.int .i64 (p.n + 1), .int .i64 (fedS S u p), .lst E2i (shK S p.us u), .lst ELiJ (flL S p.us u 0), .int .i64 (fedD S u p)], .int .i64 0] ∧ X = prR S u (fedP S u p))
theorem feed_c_A {n8 : Nat} (h8 : feed_c_P n8 := by
    intro S u p so ok hn e8
    have hu := so.un
    have on := ok.n
    have os := ok.s
    have oj := ok.j
    have oZ := so.Z
    refine prTC (fun _ => rfl) (tc env __press_Press__Feed_s (by rfl) ?_)
    dsimp only [__press_Press__Feed_c]
    have ul := so.ll
    have shl : ∀ n, (shK S p.us n).length = n := fun n => tab_len
    obtain ⟨hq, ehq⟩ : ∃ hq : Nat → (Nat → Un) → List Int → List (Option (TRow A)), hq = fedR S u p := ⟨_, rfl⟩
    have sk0 := smK_in (p := p) so ok.un u (Nat.le_refl u)
    have skl := sk0.1
    obtain ⟨M, eM⟩ : ∃ M, M = mxL (smK S p.us u) := ⟨_, rfl⟩
    have Mi : 0 ≤ M S.Z ∧ M S.Z ≤ 200000 := by
      rw [eM]
      exact mxL_in (by omega) (fun i hi => by have := sk0.2 i (by omega); omega) S.Z (by omega)
    have M0 : M 0 = 0 := by rw [eM]; rfl
    have Ms : ∀ z, M (z + 1) = max (M z) ((smK S p.us u).getD z 0) := fun z => by rw [eM]; rfl
    have hD : fedD S u p = p.n + 1 + 50 + quo (M S.Z) 500 := by rw [eM]; rfl
    have Mq : 0 ≤ quo (M S.Z) 500 ∧ quo (M S.Z) 500 ≤ M S.Z := (quo_bd (by omega)).1 Mi.1
    rw [hD]
    clear hD eM sk0
    have gd := good_c S u (ps1 S p (fe0 S p.us u)) so (by dsimp only [Due, ps1]; omega) (fun i hi => by
      show UOk S.Z (fe0 S p.us u i)
      unfold fe0
      rw [if_pos hi]
      exact nk_ok (mv_ok (ok.un i hi)) (so.l i hi).2 S.Z (Nat.le_refl _))
    obtain ⟨st, est⟩ : ∃ st, st = fedS S u p := ⟨_, rfl⟩
    rw [← est]
    unfold fedS at est
    obtain ⟨gq, egq⟩ : ∃ gq, gq = decide (goodQ S u (ps1 S p (fe0 S p.us u))) := ⟨_, rfl⟩
    rw [← egq] at gd
    have sj : 0 < p.j → st = 2 := fun h => by rw [est, if_pos h]
    have sy : ¬ 0 < p.j → gq = true → st = 0 := fun h h' => by rw [est, if_neg h, if_pos (of_decide_eq_true (egq.symm.trans h'))]
    have sn : ¬ 0 < p.j → gq = false → st = 1 := fun h h' => by rw [est, if_neg h, if_neg (of_decide_eq_false (egq.symm.trans h'))]
    have fp : 0 < p.j → fedP S u p = { n := p.n + 1, s := p.s + 1, j := p.j - 1, us := fe0 S p.us u } := fun h => by unfold fedP; rw [if_pos h]
    have fn : ¬ 0 < p.j → fedP S u p = { n := p.n + 1, s := p.s + 1, j := p.j, us := fe0 S p.us u } := fun h => by unfold fedP; rw [if_neg h]
    have fll : ∀ n i, (flL S p.us n i).length = n := fun n i => flL_len
    clear est egq
    obtain ⟨hd, ehd⟩ : ∃ hd : List (Option (TRow A)), hd = fdnR S u p := ⟨_, rfl⟩
    obtain ⟨hq2, ehq2⟩ : ∃ hq2 : Nat → Nat → List (Option (TRow A)), hq2 = fun k z => fedR S u p k (fe1 S p.us k z) (smU (mv1 p.us k) (S.ld.getD k []) (smK S p.us k) z) := ⟨_, rfl⟩
    obtain ⟨w, hw⟩ : ∃ w, w = u := ⟨_, rfl⟩
    have okw := ok.un
    have sow := so.l
    rw [← hw] at okw sow so ok
    subst e8
    refine Tw.hE (by simp only [prR, prC, unsC, unC, unR, List.cons_append, List.nil_append, Nat.reduceAdd, Nat.reduceMul]; rfl) ?_
    repeat' (first
      | with_reducible first | refine Tw.seq ?_ | refine Tw.reg ?_ | refine Tw.block ?_ | refine Tw.scope ?_ | refine Tw.skip ?_ | refine Tw.exit ?_ | refine Tw.ret ?_ | refine seqN ?_ | refine seqR ?_ | refine seqE ?_ | refine rndN ?_ | refine blkN ?_ | refine blkR ?_ | refine blkE1 ?_ | refine blkE0 (by kernel_rfl) ?_ | refine scpN ?_ | refine scpR ?_ | refine scpE ?_ | refine TOps.nil ?_ | exact Conj.nil | refine Conj.cons rfl ?_ | refine Conj.same ?_ | refine Conj.ask ?_ ?_ | refine Tw.regd env ?_ | refine TDr.nil ⟨by kernel_rfl, ?_⟩
      | ((with_reducible refine TOps.any ?_); first | refine TOps.frunP env (by rfl) (by rfl) ?_ ?_ | (refine TOps.known (by rfl) ?_; refine TOps.strip env (by rfl) (by rfl) ?_ ?_) | refine TOps.on (by rfl) (by rfl) ?_)
      | ((with_reducible refine TDr.any ?_); refine TDr.frunP env (by rfl) (by rfl) ?_ ?_)
      | ((with_reducible refine Tw.any ?_); first | refine Tw.condT (by rfl) ?_ | refine Tw.condF (by rfl) ?_)
      | ((first | ((with_reducible refine TOps.any ?_); (fail_if_success refine TOps.known (by rfl) ?_); refine TOps.ask (by rfl) (fun h => ?_) (fun h => ?_)) | ((with_reducible refine TDr.any ?_); (fail_if_success refine TDr.known (by first | rfl | assumption) ?_); refine TDr.ask (by rfl) (fun h hk => ?_) (fun h => ?_)) | ((with_reducible refine Tw.any ?_); refine Tw.cond (by rfl) (fun h => ?_) (fun h => ?_))) <;> (try simp only [goS] at h) <;> (try simp only [rdi, rd6i, rdLiJ, Int.toNat_natCast, Nat.add_zero] at h) <;> (try (exfalso; (try simp only [goP, reduceCtorEq] at h) <;> (first | assumption | omega | contradiction | (rcases h with ⟨_, _⟩ <;> first | contradiction | omega) | (rcases h with h | h <;> first | contradiction | omega)))))
      | ((with_reducible refine tret.any ?_); first | refine tret.ok (by rfl) ?_ | refine tret.okN (by rfl) ?_)
      | ((with_reducible refine Due.mk ?_); (first | with_reducible rfl | omega | assumption | decide | ((try simp only [goS] at *) <;> (try intro h) <;> (try intro h') <;> (try simp only [goS] at *) <;> (try simp only [rdi, rd6i, rdLiJ, Int.toNat_natCast, Nat.add_zero] at *) <;> (try simp only [rng]) <;> (first | assumption | omega)) | (exact due_app0 (by omega)) | (exact due_app (by omega)) | (intros; simp; done) | (intros; simp; omega)))
      | with_reducible refine Due.mk ?_
      | omega)
    refine Tw.loopK [0, 2, 3, 4, 5] (fun k : Nat => k ≤ w) (fun k => w - k) (fun k => [(54, .int .i64 k), (53, .int .i64 w)]) (fun k => hq k (fe0 S p.us k) (smK S p.us k)) ⟨0, by omega, ?_⟩ (fun k hk => ?_)
    · refine TWk.hE (by simp only [ehq, prR, prC, unsC, unC, unR, List.cons_append, List.nil_append, Nat.reduceAdd, Nat.reduceMul, fedR, recR, ps1, fe0, fe1, upU, Nat.reduceLT, Nat.reduceEqDiff, Nat.lt_irrefl, reduceIte]; rfl) (TWk.fcanonR env 0 (by rfl) ?_)
      repeat' (first
        | exact rfl
        | with_reducible first | refine Tw.seq ?_ | refine Tw.reg ?_ | refine Tw.block ?_ | refine Tw.scope ?_ | refine Tw.skip ?_ | refine Tw.exit ?_ | refine Tw.ret ?_ | refine seqN ?_ | refine seqR ?_ | refine seqE ?_ | refine rndN ?_ | refine blkN ?_ | refine blkR ?_ | refine blkE1 ?_ | refine blkE0 (by kernel_rfl) ?_ | refine scpN ?_ | refine scpR ?_ | refine scpE ?_ | refine TOps.nil ?_ | exact Conj.nil | refine Conj.cons rfl ?_ | refine Conj.same ?_ | refine Conj.ask ?_ ?_ | refine Tw.regd env ?_ | refine TDr.nil ⟨by kernel_rfl, ?_⟩
        | ((with_reducible refine TOps.any ?_); first | refine TOps.frunP env (by rfl) (by rfl) ?_ ?_ | (refine TOps.known (by rfl) ?_; refine TOps.strip env (by rfl) (by rfl) ?_ ?_) | refine TOps.on (by rfl) (by rfl) ?_)
        | ((with_reducible refine TDr.any ?_); refine TDr.frunP env (by rfl) (by rfl) ?_ ?_)
        | ((with_reducible refine Tw.any ?_); first | refine Tw.condT (by rfl) ?_ | refine Tw.condF (by rfl) ?_)
        | ((first | ((with_reducible refine TOps.any ?_); (fail_if_success refine TOps.known (by rfl) ?_); refine TOps.ask (by rfl) (fun h => ?_) (fun h => ?_)) | ((with_reducible refine TDr.any ?_); (fail_if_success refine TDr.known (by first | rfl | assumption) ?_); refine TDr.ask (by rfl) (fun h hk => ?_) (fun h => ?_)) | ((with_reducible refine Tw.any ?_); refine Tw.cond (by rfl) (fun h => ?_) (fun h => ?_))) <;> (try simp only [goS] at h) <;> (try simp only [rdi, rd6i, rdLiJ, hw, Int.toNat_natCast, Nat.add_zero] at h))
        | ((with_reducible refine tret.any ?_); first | refine tret.ok (by rfl) ?_ | refine tret.okN (by rfl) ?_)
        | ((with_reducible refine Due.mk ?_); (first | with_reducible rfl | omega | assumption | decide | ((try simp only [goS] at *) <;> (try intro h) <;> (try intro h') <;> (try simp only [goS] at *) <;> (try simp only [rdi, rd6i, rdLiJ, hw, Int.toNat_natCast, Nat.add_zero] at *) <;> (try simp only [rng]) <;> (first | assumption | omega)) | (exact due_app0 (by omega)) | (exact due_app (by omega)) | (intros; simp; done) | (intros; simp; omega)))
        | with_reducible refine Due.mk ?_
        | omega)
    rcases Nat.lt_or_ge k w with hk | hk
    · have b := below (i := k) (u := w) ⟨hk, by omega⟩
      have ou := okw k hk
      have ol := sow k hk
      have oz : UOk S.Z (mv1 p.us k) := mv_ok ou
      have sk := smK_in (p := p) so ok.un k (by omega)
      have dx := ou.dx
      have dy := ou.dy
      have ox := ou.x
      have oy := ou.y
      have mv := move_c S w k (ps1 S p (fe0 S p.us k)) (p.us k).dx (p.us k).dy ⟨hk, by omega⟩ (by show Due _; dsimp only [Due, ps1]; rw [fe0_at]; omega) (by dsimp only [Due]; omega)
      rw [hw] at mv
      have ink := fun z (hz : z < S.Z) => ink_c S w k z (ps1 S p (fe1 S p.us k z)) ((S.ld.getD k []).getD z 0) ⟨hk, by omega⟩ hz (by show UOk S.Z (fe1 S p.us k z k); rw [fe1_at]; exact nk_ok oz ol.2 z (by omega)) (ol.2 z hz)
      rw [hw] at ink
      have sum := fun z (hz : z < S.Z) => (smU_in oz ol.2 sk.1 sk.2 z (by omega)).2 z hz
      have slen := fun z (hz : z < S.Z) => (smU_in oz ol.2 sk.1 sk.2 z (by omega)).1
      have fl1 : ∀ z, z < S.Z → (inkU (nkU (mv1 p.us k) (S.ld.getD k []) z) z ((S.ld.getD k []).getD z 0)).fl.length = S.Z := fun z hz => (nk_ok oz ol.2 (z + 1) (by omega)).fl
      have dd : ∀ z, z < S.Z → -9223372036854775808 ≤ (smU (mv1 p.us k) (S.ld.getD k []) (smK S p.us k) z).getD z 0 + (inkU (nkU (mv1 p.us k) (S.ld.getD k []) z) z ((S.ld.getD k []).getD z 0)).fl.getD z 0 ∧ (smU (mv1 p.us k) (S.ld.getD k []) (smK S p.us k) z).getD z 0 + (inkU (nkU (mv1 p.us k) (S.ld.getD k []) z) z ((S.ld.getD k []).getD z 0)).fl.getD z 0 ≤ 9223372036854775807 := fun z hz => by
        have h1 := sum z hz
        have h2 : 0 ≤ (inkU (nkU (mv1 p.us k) (S.ld.getD k []) z) z ((S.ld.getD k []).getD z 0)).fl.getD z 0 ∧ (inkU (nkU (mv1 p.us k) (S.ld.getD k []) z) z ((S.ld.getD k []).getD z 0)).fl.getD z 0 ≤ 24000 := (nk_ok oz ol.2 (z + 1) (by omega)).f z hz
        rw [if_neg (by omega)] at h1
        omega
      have flen := fun z (hz : z ≤ S.Z) => (nk_ok oz ol.2 z hz).fl
      clear sum
      have le3 : S.Z = (dnU S p.us k).fl.length := (flen S.Z (by omega)).symm
      have le1 : 0 + S.Z ≤ (dnU S p.us k).fl.length := by omega
      have le2 : (cut (dnU S p.us k).fl 0 S.Z).length * 8 ≤ 140737488355328 ∧ (cut (dnU S p.us k).fl 0 S.Z).length ≤ 140737488355328 := by rw [cut_all le3, ← le3]; omega
      have s2 : (dnU S p.us k).fl = cut (cut (dnU S p.us k).fl 0 S.Z) 0 (cut (dnU S p.us k).fl 0 S.Z).length := by rw [cut_all le3, cut_all rfl]
      have hll := ol.1
      clear sk ol oz dx dy ox oy ou
      obtain ⟨j, ej⟩ : ∃ j, j = k := ⟨_, rfl⟩
      rcases b with ⟨rfl, b⟩ | ⟨rfl, b⟩ | ⟨rfl, b⟩ | ⟨rfl, b⟩ | ⟨rfl, b⟩ | ⟨rfl, b⟩ | ⟨rfl, b⟩ | ⟨rfl, b⟩
      all_goals first | (exfalso; omega) | refine Tw.hE (by simp only [ehq, prR, prC, unsC, unC, unR, List.cons_append, List.nil_append, Nat.reduceAdd, Nat.reduceMul, fedR, recR, ps1, fe0, fe1, upU, Nat.reduceLT, Nat.reduceEqDiff, Nat.lt_irrefl, reduceIte]; rfl) ?_
      all_goals
        simp only [prR, prC, unsC, unC, unR, List.cons_append, List.nil_append, Nat.reduceAdd, Nat.reduceMul, fedR, recR, ps1, fe0, fe1, upU, Nat.reduceLT, Nat.reduceEqDiff, Nat.lt_irrefl, reduceIte] at mv
        repeat' (first
          | ((with_reducible refine TOps.any ?_); refine callI env _ (mv) (by rfl) (by rfl) (by rfl) (by simp only [List.length_cons, List.length_nil, Nat.reduceAdd]; rfl) (by rfl) (by rfl) (by rfl) (by rfl) (by rfl) ?_)
          | with_reducible first | refine Tw.seq ?_ | refine Tw.reg ?_ | refine Tw.block ?_ | refine Tw.scope ?_ | refine Tw.skip ?_ | refine Tw.exit ?_ | refine Tw.ret ?_ | refine seqN ?_ | refine seqR ?_ | refine seqE ?_ | refine rndN ?_ | refine blkN ?_ | refine blkR ?_ | refine blkE1 ?_ | refine blkE0 (by kernel_rfl) ?_ | refine scpN ?_ | refine scpR ?_ | refine scpE ?_ | refine TOps.nil ?_ | exact Conj.nil | refine Conj.cons rfl ?_ | refine Conj.same ?_ | refine Conj.ask ?_ ?_ | refine Tw.regd env ?_ | refine TDr.nil ⟨by kernel_rfl, ?_⟩
          | ((with_reducible refine TOps.any ?_); first | refine TOps.frunP env (by rfl) (by rfl) ?_ ?_ | (refine TOps.known (by rfl) ?_; refine TOps.strip env (by rfl) (by rfl) ?_ ?_) | refine TOps.on (by rfl) (by rfl) ?_)
          | ((with_reducible refine TDr.any ?_); refine TDr.frunP env (by rfl) (by rfl) ?_ ?_)
          | ((with_reducible refine Tw.any ?_); first | refine Tw.condT (by rfl) ?_ | refine Tw.condF (by rfl) ?_)
          | ((first | ((with_reducible refine TOps.any ?_); (fail_if_success refine TOps.known (by rfl) ?_); refine TOps.ask (by rfl) (fun h => ?_) (fun h => ?_)) | ((with_reducible refine TDr.any ?_); (fail_if_success refine TDr.known (by first | rfl | assumption) ?_); refine TDr.ask (by rfl) (fun h hk => ?_) (fun h => ?_)) | ((with_reducible refine Tw.any ?_); refine Tw.cond (by rfl) (fun h => ?_) (fun h => ?_))) <;> (try simp only [goS] at h) <;> (try simp only [rdi, rd6i, rdLiJ, hw, Int.toNat_natCast, Nat.add_zero] at h) <;> (try (exfalso; (try simp only [goP, reduceCtorEq] at h) <;> (first | assumption | omega | contradiction | (rcases h with ⟨_, _⟩ <;> first | contradiction | omega) | (rcases h with h | h <;> first | contradiction | omega)))))
          | ((with_reducible refine tret.any ?_); first | refine tret.ok (by rfl) ?_ | refine tret.okN (by rfl) ?_)
          | ((with_reducible refine Due.mk ?_); (first | with_reducible rfl | omega | assumption | decide | ((try simp only [goS] at *) <;> (try intro h) <;> (try intro h') <;> (try simp only [goS] at *) <;> (try simp only [rdi, rd6i, rdLiJ, hw, Int.toNat_natCast, Nat.add_zero] at *) <;> (try simp only [rng]) <;> (first | assumption | omega)) | (exact due_app0 (by omega)) | (exact due_app (by omega)) | (intros; simp; done) | (intros; simp; omega)))
          | with_reducible refine Due.mk ?_
          | omega)
        clear mv
        refine Tw.loopK [0, 2, 3, 4, 5, 53, 54, 6, 7] (fun z : Nat => z ≤ S.Z) (fun z => S.Z - z) (fun z => [(74, .int .i64 z), (73, .int .i64 S.Z)]) (fun z => hq2 j z) ⟨0, by omega, ?_⟩ (fun z hz => ?_)
        · refine TWk.hE (by simp only [ehq2, ej, prR, prC, unsC, unC, unR, List.cons_append, List.nil_append, Nat.reduceAdd, Nat.reduceMul, fedR, recR, ps1, fe0, fe1, upU, Nat.reduceLT, Nat.reduceEqDiff, Nat.lt_irrefl, reduceIte]; rfl) (TWk.fcanonR env 0 (by rfl) ?_)
          repeat' (first
            | exact rfl
            | with_reducible first | refine Tw.seq ?_ | refine Tw.reg ?_ | refine Tw.block ?_ | refine Tw.scope ?_ | refine Tw.skip ?_ | refine Tw.exit ?_ | refine Tw.ret ?_ | refine seqN ?_ | refine seqR ?_ | refine seqE ?_ | refine rndN ?_ | refine blkN ?_ | refine blkR ?_ | refine blkE1 ?_ | refine blkE0 (by kernel_rfl) ?_ | refine scpN ?_ | refine scpR ?_ | refine scpE ?_ | refine TOps.nil ?_ | exact Conj.nil | refine Conj.cons rfl ?_ | refine Conj.same ?_ | refine Conj.ask ?_ ?_ | refine Tw.regd env ?_ | refine TDr.nil ⟨by kernel_rfl, ?_⟩
            | ((with_reducible refine TOps.any ?_); first | refine TOps.frunP env (by rfl) (by rfl) ?_ ?_ | (refine TOps.known (by rfl) ?_; refine TOps.strip env (by rfl) (by rfl) ?_ ?_) | refine TOps.on (by rfl) (by rfl) ?_)
            | ((with_reducible refine TDr.any ?_); refine TDr.frunP env (by rfl) (by rfl) ?_ ?_)
            | ((with_reducible refine Tw.any ?_); first | refine Tw.condT (by rfl) ?_ | refine Tw.condF (by rfl) ?_)
            | ((first | ((with_reducible refine TOps.any ?_); (fail_if_success refine TOps.known (by rfl) ?_); refine TOps.ask (by rfl) (fun h => ?_) (fun h => ?_)) | ((with_reducible refine TDr.any ?_); (fail_if_success refine TDr.known (by first | rfl | assumption) ?_); refine TDr.ask (by rfl) (fun h hk => ?_) (fun h => ?_)) | ((with_reducible refine Tw.any ?_); refine Tw.cond (by rfl) (fun h => ?_) (fun h => ?_))) <;> (try simp only [goS] at h) <;> (try simp only [rdi, rd6i, rdLiJ, Int.toNat_natCast, Nat.add_zero] at h))
            | ((with_reducible refine tret.any ?_); first | refine tret.ok (by rfl) ?_ | refine tret.okN (by rfl) ?_)
            | ((with_reducible refine Due.mk ?_); (first | with_reducible rfl | omega | assumption | decide | ((try simp only [goS] at *) <;> (try intro h) <;> (try intro h') <;> (try simp only [goS] at *) <;> (try simp only [rdi, rd6i, rdLiJ, Int.toNat_natCast, Nat.add_zero] at *) <;> (try simp only [rng]) <;> (first | assumption | omega)) | (exact due_app0 (by omega)) | (exact due_app (by omega)) | (intros; simp; done) | (intros; simp; omega)))
            | with_reducible refine Due.mk ?_
            | omega)
        rcases Nat.lt_or_ge z S.Z with hz | hz
        · have ik := ink z hz
          have d := dd z hz
          have sl := slen z hz
          have fl := flen z (by omega)
          have f1 := fl1 z hz
          clear ink dd slen flen fl1
          simp only [prR, prC, unsC, unC, unR, List.cons_append, List.nil_append, Nat.reduceAdd, Nat.reduceMul, fedR, recR, ps1, fe0, fe1, upU, Nat.reduceLT, Nat.reduceEqDiff, Nat.lt_irrefl, reduceIte] at ik
          refine Tw.hE (by simp only [ehq2, ej, prR, prC, unsC, unC, unR, List.cons_append, List.nil_append, Nat.reduceAdd, Nat.reduceMul, fedR, recR, ps1, fe0, fe1, upU, Nat.reduceLT, Nat.reduceEqDiff, Nat.lt_irrefl, reduceIte]; rfl) ?_
          repeat' (first
            | ((with_reducible refine TOps.any ?_); refine callI env _ (ik) (by rfl) (by rfl) (by rfl) (by simp only [List.length_cons, List.length_nil, Nat.reduceAdd]; rfl) (by rfl) (by rfl) (by rfl) (by rfl) (by rfl) ?_)
            | exact d
            | with_reducible first | refine Tw.seq ?_ | refine Tw.reg ?_ | refine Tw.block ?_ | refine Tw.scope ?_ | refine Tw.skip ?_ | refine Tw.exit ?_ | refine Tw.ret ?_ | refine seqN ?_ | refine seqR ?_ | refine seqE ?_ | refine rndN ?_ | refine blkN ?_ | refine blkR ?_ | refine blkE1 ?_ | refine blkE0 (by kernel_rfl) ?_ | refine scpN ?_ | refine scpR ?_ | refine scpE ?_ | refine TOps.nil ?_ | exact Conj.nil | refine Conj.cons rfl ?_ | refine Conj.same ?_ | refine Conj.ask ?_ ?_ | refine Tw.regd env ?_ | refine TDr.nil ⟨by kernel_rfl, ?_⟩
            | ((with_reducible refine TOps.any ?_); first | refine TOps.frunP env (by rfl) (by rfl) ?_ ?_ | (refine TOps.known (by rfl) ?_; refine TOps.strip env (by rfl) (by rfl) ?_ ?_) | refine TOps.on (by rfl) (by rfl) ?_)
            | ((with_reducible refine TDr.any ?_); refine TDr.frunP env (by rfl) (by rfl) ?_ ?_)
            | ((with_reducible refine Tw.any ?_); first | refine Tw.condT (by rfl) ?_ | refine Tw.condF (by rfl) ?_)
            | ((first | ((with_reducible refine TOps.any ?_); (fail_if_success refine TOps.known (by rfl) ?_); refine TOps.ask (by rfl) (fun h => ?_) (fun h => ?_)) | ((with_reducible refine TDr.any ?_); (fail_if_success refine TDr.known (by first | rfl | assumption) ?_); refine TDr.ask (by rfl) (fun h hk => ?_) (fun h => ?_)) | ((with_reducible refine Tw.any ?_); refine Tw.cond (by rfl) (fun h => ?_) (fun h => ?_))) <;> (try simp only [goS] at h) <;> (try simp only [rdi, rd6i, rdLiJ, hll, ul, sl, fl, f1, Int.toNat_natCast, Nat.add_zero] at h) <;> (try (exfalso; (try simp only [goP, reduceCtorEq] at h) <;> (first | assumption | omega | contradiction | (rcases h with ⟨_, _⟩ <;> first | contradiction | omega) | (rcases h with h | h <;> first | contradiction | omega)))))
            | ((with_reducible refine tret.any ?_); first | refine tret.ok (by rfl) ?_ | refine tret.okN (by rfl) ?_)
            | ((with_reducible refine Due.mk ?_); (first | with_reducible rfl | omega | assumption | decide | ((try simp only [goS] at *) <;> (try intro h) <;> (try intro h') <;> (try simp only [goS] at *) <;> (try simp only [rdi, rd6i, rdLiJ, hll, ul, sl, fl, f1, Int.toNat_natCast, Nat.add_zero] at *) <;> (try simp only [rng]) <;> (first | assumption | omega)) | (exact due_app0 (by omega)) | (exact due_app (by omega)) | (intros; simp; done) | (intros; simp; omega)))
            | with_reducible refine Due.mk ?_
            | omega)
          refine ⟨z + 1, by omega, by omega, TWk.hE (by simp only [ehq2, ej, prR, prC, unsC, unC, unR, List.cons_append, List.nil_append, Nat.reduceAdd, Nat.reduceMul, fedR, recR, ps1, fe0, fe1, upU, Nat.reduceLT, Nat.reduceEqDiff, Nat.lt_irrefl, reduceIte]; rfl) (TWk.fcanonR env 0 (by rfl) ?_)⟩
          repeat' (first
            | exact rfl
            | with_reducible first | refine Tw.seq ?_ | refine Tw.reg ?_ | refine Tw.block ?_ | refine Tw.scope ?_ | refine Tw.skip ?_ | refine Tw.exit ?_ | refine Tw.ret ?_ | refine seqN ?_ | refine seqR ?_ | refine seqE ?_ | refine rndN ?_ | refine blkN ?_ | refine blkR ?_ | refine blkE1 ?_ | refine blkE0 (by kernel_rfl) ?_ | refine scpN ?_ | refine scpR ?_ | refine scpE ?_ | refine TOps.nil ?_ | exact Conj.nil | refine Conj.cons rfl ?_ | refine Conj.same ?_ | refine Conj.ask ?_ ?_ | refine Tw.regd env ?_ | refine TDr.nil ⟨by kernel_rfl, ?_⟩
            | ((with_reducible refine TOps.any ?_); first | refine TOps.frunP env (by rfl) (by rfl) ?_ ?_ | (refine TOps.known (by rfl) ?_; refine TOps.strip env (by rfl) (by rfl) ?_ ?_) | refine TOps.on (by rfl) (by rfl) ?_)
            | ((with_reducible refine TDr.any ?_); refine TDr.frunP env (by rfl) (by rfl) ?_ ?_)
            | ((with_reducible refine Tw.any ?_); first | refine Tw.condT (by rfl) ?_ | refine Tw.condF (by rfl) ?_)
            | ((first | ((with_reducible refine TOps.any ?_); (fail_if_success refine TOps.known (by rfl) ?_); refine TOps.ask (by rfl) (fun h => ?_) (fun h => ?_)) | ((with_reducible refine TDr.any ?_); (fail_if_success refine TDr.known (by first | rfl | assumption) ?_); refine TDr.ask (by rfl) (fun h hk => ?_) (fun h => ?_)) | ((with_reducible refine Tw.any ?_); refine Tw.cond (by rfl) (fun h => ?_) (fun h => ?_))) <;> (try simp only [goS] at h) <;> (try simp only [rdi, rd6i, rdLiJ, Int.toNat_natCast, Nat.add_zero] at h))
            | ((with_reducible refine tret.any ?_); first | refine tret.ok (by rfl) ?_ | refine tret.okN (by rfl) ?_)
            | ((with_reducible refine Due.mk ?_); (first | with_reducible rfl | omega | assumption | decide | ((try simp only [goS] at *) <;> (try intro h) <;> (try intro h') <;> (try simp only [goS] at *) <;> (try simp only [rdi, rd6i, rdLiJ, Int.toNat_natCast, Nat.add_zero] at *) <;> (try simp only [rng]) <;> (first | assumption | omega)) | (exact due_app0 (by omega)) | (exact due_app (by omega)) | (intros; simp; done) | (intros; simp; omega)))
            | with_reducible refine Due.mk ?_
            | omega)
        · obtain rfl : z = S.Z := by omega
          rw [ehq2]
          dsimp only
          rw [fe1_next]
          have f1 := flen S.Z (by omega)
          clear ink dd slen flen fl1
          refine Tw.hE (by simp only [ej, prR, prC, unsC, unC, unR, List.cons_append, List.nil_append, Nat.reduceAdd, Nat.reduceMul, fedR, recR, ps1, fe0, fe1, upU, Nat.reduceLT, Nat.reduceEqDiff, Nat.lt_irrefl, reduceIte]; rfl) ?_
          repeat' (first
            | exact le1
            | exact le2
            | with_reducible first | refine Tw.seq ?_ | refine Tw.reg ?_ | refine Tw.block ?_ | refine Tw.scope ?_ | refine Tw.skip ?_ | refine Tw.exit ?_ | refine Tw.ret ?_ | refine seqN ?_ | refine seqR ?_ | refine seqE ?_ | refine rndN ?_ | refine blkN ?_ | refine blkR ?_ | refine blkE1 ?_ | refine blkE0 (by kernel_rfl) ?_ | refine scpN ?_ | refine scpR ?_ | refine scpE ?_ | refine TOps.nil ?_ | exact Conj.nil | refine Conj.cons rfl ?_ | refine Conj.same ?_ | refine Conj.ask ?_ ?_ | refine Tw.regd env ?_ | refine TDr.nil ⟨by kernel_rfl, ?_⟩
            | ((with_reducible refine TOps.any ?_); first | refine TOps.frunP env (by rfl) (by rfl) ?_ ?_ | (refine TOps.known (by rfl) ?_; refine TOps.strip env (by rfl) (by rfl) ?_ ?_) | refine TOps.on (by rfl) (by rfl) ?_)
            | ((with_reducible refine TDr.any ?_); refine TDr.frunP env (by rfl) (by rfl) ?_ ?_)
            | ((with_reducible refine Tw.any ?_); first | refine Tw.condT (by rfl) ?_ | refine Tw.condF (by rfl) ?_)
            | ((first | ((with_reducible refine TOps.any ?_); (fail_if_success refine TOps.known (by rfl) ?_); refine TOps.ask (by rfl) (fun h => ?_) (fun h => ?_)) | ((with_reducible refine TDr.any ?_); (fail_if_success refine TDr.known (by first | rfl | assumption) ?_); refine TDr.ask (by rfl) (fun h hk => ?_) (fun h => ?_)) | ((with_reducible refine Tw.any ?_); refine Tw.cond (by rfl) (fun h => ?_) (fun h => ?_))) <;> (try simp only [goS] at h) <;> (try simp only [rdi, rd6i, rdLiJ, f1, shl, Int.toNat_natCast, Nat.add_zero] at h) <;> (try (exfalso; (try simp only [goP, reduceCtorEq] at h) <;> (first | assumption | omega | contradiction | (rcases h with ⟨_, _⟩ <;> first | contradiction | omega) | (rcases h with h | h <;> first | contradiction | omega)))))
            | ((with_reducible refine tret.any ?_); first | refine tret.ok (by rfl) ?_ | refine tret.okN (by rfl) ?_)
            | ((with_reducible refine Due.mk ?_); (first | with_reducible rfl | omega | assumption | decide | ((try simp only [goS] at *) <;> (try intro h) <;> (try intro h') <;> (try simp only [goS] at *) <;> (try simp only [rdi, rd6i, rdLiJ, f1, shl, Int.toNat_natCast, Nat.add_zero] at *) <;> (try simp only [rng]) <;> (first | assumption | omega)) | (exact due_app0 (by omega)) | (exact due_app (by omega)) | (intros; simp; done) | (intros; simp; omega)))
            | with_reducible refine Due.mk ?_
            | omega)
          refine ⟨j + 1, by omega, by omega, ?_⟩
          refine TWk.frzD env 3 (by rfl) (by rfl) (by rfl) ?_ ?_ ?_
          · repeat' (first
              | with_reducible first | refine Tw.seq ?_ | refine Tw.reg ?_ | refine Tw.block ?_ | refine Tw.scope ?_ | refine Tw.skip ?_ | refine Tw.exit ?_ | refine Tw.ret ?_ | refine seqN ?_ | refine seqR ?_ | refine seqE ?_ | refine rndN ?_ | refine blkN ?_ | refine blkR ?_ | refine blkE1 ?_ | refine blkE0 (by kernel_rfl) ?_ | refine scpN ?_ | refine scpR ?_ | refine scpE ?_ | refine TOps.nil ?_ | exact Conj.nil | refine Conj.cons rfl ?_ | refine Conj.same ?_ | refine Conj.ask ?_ ?_ | refine Tw.regd env ?_ | refine TDr.nil ⟨by kernel_rfl, ?_⟩
              | ((with_reducible refine TOps.any ?_); first | refine TOps.frunP env (by rfl) (by rfl) ?_ ?_ | (refine TOps.known (by rfl) ?_; refine TOps.strip env (by rfl) (by rfl) ?_ ?_) | refine TOps.on (by rfl) (by rfl) ?_)
              | ((with_reducible refine TDr.any ?_); refine TDr.frunP env (by rfl) (by rfl) ?_ ?_)
              | ((with_reducible refine Tw.any ?_); first | refine Tw.condT (by rfl) ?_ | refine Tw.condF (by rfl) ?_)
              | ((first | ((with_reducible refine TOps.any ?_); (fail_if_success refine TOps.known (by rfl) ?_); refine TOps.ask (by rfl) (fun h => ?_) (fun h => ?_)) | ((with_reducible refine TDr.any ?_); (fail_if_success refine TDr.known (by first | rfl | assumption) ?_); refine TDr.ask (by rfl) (fun h hk => ?_) (fun h => ?_)) | ((with_reducible refine Tw.any ?_); refine Tw.cond (by rfl) (fun h => ?_) (fun h => ?_))) <;> (try simp only [goS] at h) <;> (try simp only [rdi, rd6i, rdLiJ, Int.toNat_natCast, Nat.add_zero] at h))
              | ((with_reducible refine tret.any ?_); first | refine tret.ok (by rfl) ?_ | refine tret.okN (by rfl) ?_)
              | ((with_reducible refine Due.mk ?_); (first | with_reducible rfl | omega | assumption | decide | ((try simp only [goS] at *) <;> (try intro h) <;> (try intro h') <;> (try simp only [goS] at *) <;> (try simp only [rdi, rd6i, rdLiJ, Int.toNat_natCast, Nat.add_zero] at *) <;> (try simp only [rng]) <;> (first | assumption | omega)) | (exact due_app0 (by omega)) | (exact due_app (by omega)) | (intros; simp; done) | (intros; simp; omega)))
              | with_reducible refine Due.mk ?_
              | omega)
          · repeat' (first
              | with_reducible first | refine Tw.seq ?_ | refine Tw.reg ?_ | refine Tw.block ?_ | refine Tw.scope ?_ | refine Tw.skip ?_ | refine Tw.exit ?_ | refine Tw.ret ?_ | refine seqN ?_ | refine seqR ?_ | refine seqE ?_ | refine rndN ?_ | refine blkN ?_ | refine blkR ?_ | refine blkE1 ?_ | refine blkE0 (by kernel_rfl) ?_ | refine scpN ?_ | refine scpR ?_ | refine scpE ?_ | refine TOps.nil ?_ | exact Conj.nil | refine Conj.cons rfl ?_ | refine Conj.same ?_ | refine Conj.ask ?_ ?_ | refine Tw.regd env ?_ | refine TDr.nil ⟨by kernel_rfl, ?_⟩
              | ((with_reducible refine TOps.any ?_); first | refine TOps.frunP env (by rfl) (by rfl) ?_ ?_ | (refine TOps.known (by rfl) ?_; refine TOps.strip env (by rfl) (by rfl) ?_ ?_) | refine TOps.on (by rfl) (by rfl) ?_)
              | ((with_reducible refine TDr.any ?_); refine TDr.frunP env (by rfl) (by rfl) ?_ ?_)
              | ((with_reducible refine Tw.any ?_); first | refine Tw.condT (by rfl) ?_ | refine Tw.condF (by rfl) ?_)
              | ((first | ((with_reducible refine TOps.any ?_); (fail_if_success refine TOps.known (by rfl) ?_); refine TOps.ask (by rfl) (fun h => ?_) (fun h => ?_)) | ((with_reducible refine TDr.any ?_); (fail_if_success refine TDr.known (by first | rfl | assumption) ?_); refine TDr.ask (by rfl) (fun h hk => ?_) (fun h => ?_)) | ((with_reducible refine Tw.any ?_); refine Tw.cond (by rfl) (fun h => ?_) (fun h => ?_))) <;> (try simp only [goS] at h) <;> (try simp only [rdi, rd6i, rdLiJ, Int.toNat_natCast, Nat.add_zero] at h))
              | ((with_reducible refine tret.any ?_); first | refine tret.ok (by rfl) ?_ | refine tret.okN (by rfl) ?_)
              | ((with_reducible refine Due.mk ?_); (first | with_reducible rfl | omega | assumption | decide | ((try simp only [goS] at *) <;> (try intro h) <;> (try intro h') <;> (try simp only [goS] at *) <;> (try simp only [rdi, rd6i, rdLiJ, Int.toNat_natCast, Nat.add_zero] at *) <;> (try simp only [rng]) <;> (first | assumption | omega)) | (exact due_app0 (by omega)) | (exact due_app (by omega)) | (intros; simp; done) | (intros; simp; omega)))
              | with_reducible refine Due.mk ?_
              | omega)
          refine TWk.hE (by simp only [ehq, ej, prR, prC, unsC, unC, unR, List.cons_append, List.nil_append, Nat.reduceAdd, Nat.reduceMul, fedR, recR, ps1, fe0, fe1, upU, Nat.reduceLT, Nat.reduceEqDiff, Nat.lt_irrefl, reduceIte]; rfl) ?_
          first | refine TWk.fcanonG env (fun n => (List.range (n - 2)).map some ++ [some (n - 1), some (n + 2)]) (by rfl) ?_ | refine TWk.fcanonG env (fun n => (List.range (n - 2)).map some ++ [some (n + 1), some (n + 4)]) (by rfl) ?_
          repeat' (first
            | exact s2
            | exact rfl
            | with_reducible first | refine Tw.seq ?_ | refine Tw.reg ?_ | refine Tw.block ?_ | refine Tw.scope ?_ | refine Tw.skip ?_ | refine Tw.exit ?_ | refine Tw.ret ?_ | refine seqN ?_ | refine seqR ?_ | refine seqE ?_ | refine rndN ?_ | refine blkN ?_ | refine blkR ?_ | refine blkE1 ?_ | refine blkE0 (by kernel_rfl) ?_ | refine scpN ?_ | refine scpR ?_ | refine scpE ?_ | refine TOps.nil ?_ | exact Conj.nil | refine Conj.cons rfl ?_ | refine Conj.same ?_ | refine Conj.ask ?_ ?_ | refine Tw.regd env ?_ | refine TDr.nil ⟨by kernel_rfl, ?_⟩
            | ((with_reducible refine TOps.any ?_); first | refine TOps.frunP env (by rfl) (by rfl) ?_ ?_ | (refine TOps.known (by rfl) ?_; refine TOps.strip env (by rfl) (by rfl) ?_ ?_) | refine TOps.on (by rfl) (by rfl) ?_)
            | ((with_reducible refine TDr.any ?_); refine TDr.frunP env (by rfl) (by rfl) ?_ ?_)
            | ((with_reducible refine Tw.any ?_); first | refine Tw.condT (by rfl) ?_ | refine Tw.condF (by rfl) ?_)
            | ((first | ((with_reducible refine TOps.any ?_); (fail_if_success refine TOps.known (by rfl) ?_); refine TOps.ask (by rfl) (fun h => ?_) (fun h => ?_)) | ((with_reducible refine TDr.any ?_); (fail_if_success refine TDr.known (by first | rfl | assumption) ?_); refine TDr.ask (by rfl) (fun h hk => ?_) (fun h => ?_)) | ((with_reducible refine Tw.any ?_); refine Tw.cond (by rfl) (fun h => ?_) (fun h => ?_))) <;> (try simp only [goS] at h) <;> (try simp only [rdi, rd6i, rdLiJ, Int.toNat_natCast, Nat.add_zero] at h))
            | ((with_reducible refine tret.any ?_); first | refine tret.ok (by rfl) ?_ | refine tret.okN (by rfl) ?_)
            | ((with_reducible refine Due.mk ?_); (first | with_reducible rfl | omega | assumption | decide | ((try simp only [goS] at *) <;> (try intro h) <;> (try intro h') <;> (try simp only [goS] at *) <;> (try simp only [rdi, rd6i, rdLiJ, Int.toNat_natCast, Nat.add_zero] at *) <;> (try simp only [rng]) <;> (first | assumption | omega)) | (exact due_app0 (by omega)) | (exact due_app (by omega)) | (intros; simp; done) | (intros; simp; omega)))
            | with_reducible refine Due.mk ?_
            | omega)
    · obtain rfl : w = k := by omega
      clear ok okw sow
      refine Tw.hE (by simp only [ehq, hw, prR, prC, unsC, unC, unR, List.cons_append, List.nil_append, Nat.reduceAdd, Nat.reduceMul, fedR, recR, ps1, fe0, fe1, upU, Nat.reduceLT, Nat.reduceEqDiff, Nat.lt_irrefl, reduceIte]; rfl) ?_
      repeat' (first
        | with_reducible first | refine Tw.seq ?_ | refine Tw.reg ?_ | refine Tw.block ?_ | refine Tw.scope ?_ | refine Tw.skip ?_ | refine Tw.exit ?_ | refine Tw.ret ?_ | refine seqN ?_ | refine seqR ?_ | refine seqE ?_ | refine rndN ?_ | refine blkN ?_ | refine blkR ?_ | refine blkE1 ?_ | refine blkE0 (by kernel_rfl) ?_ | refine scpN ?_ | refine scpR ?_ | refine scpE ?_ | refine TOps.nil ?_ | exact Conj.nil | refine Conj.cons rfl ?_ | refine Conj.same ?_ | refine Conj.ask ?_ ?_ | refine Tw.regd env ?_ | refine TDr.nil ⟨by kernel_rfl, ?_⟩
        | ((with_reducible refine TOps.any ?_); first | refine TOps.frunP env (by rfl) (by rfl) ?_ ?_ | (refine TOps.known (by rfl) ?_; refine TOps.strip env (by rfl) (by rfl) ?_ ?_) | refine TOps.on (by rfl) (by rfl) ?_)
        | ((with_reducible refine TDr.any ?_); refine TDr.frunP env (by rfl) (by rfl) ?_ ?_)
        | ((with_reducible refine Tw.any ?_); first | refine Tw.condT (by rfl) ?_ | refine Tw.condF (by rfl) ?_)
        | ((first | ((with_reducible refine TOps.any ?_); (fail_if_success refine TOps.known (by rfl) ?_); refine TOps.ask (by rfl) (fun h => ?_) (fun h => ?_)) | ((with_reducible refine TDr.any ?_); (fail_if_success refine TDr.known (by first | rfl | assumption) ?_); refine TDr.ask (by rfl) (fun h hk => ?_) (fun h => ?_)) | ((with_reducible refine Tw.any ?_); refine Tw.cond (by rfl) (fun h => ?_) (fun h => ?_))) <;> (try simp only [goS] at h) <;> (try simp only [rdi, rd6i, rdLiJ, hw, Int.toNat_natCast, Nat.add_zero] at h) <;> (try (exfalso; (try simp only [goP, reduceCtorEq] at h) <;> (first | assumption | omega | contradiction | (rcases h with ⟨_, _⟩ <;> first | contradiction | omega) | (rcases h with h | h <;> first | contradiction | omega)))))
        | ((with_reducible refine tret.any ?_); first | refine tret.ok (by rfl) ?_ | refine tret.okN (by rfl) ?_)
        | ((with_reducible refine Due.mk ?_); (first | with_reducible rfl | omega | assumption | decide | ((try simp only [goS] at *) <;> (try intro h) <;> (try intro h') <;> (try simp only [goS] at *) <;> (try simp only [rdi, rd6i, rdLiJ, hw, Int.toNat_natCast, Nat.add_zero] at *) <;> (try simp only [rng]) <;> (first | assumption | omega)) | (exact due_app0 (by omega)) | (exact due_app (by omega)) | (intros; simp; done) | (intros; simp; omega)))
        | with_reducible refine Due.mk ?_
        | omega)
      refine Tw.loopK [0, 2, 3, 4, 5, 125] (fun z : Nat => z ≤ S.Z) (fun z => S.Z - z) (fun z => [(127, .int .i64 z), (126, .int .i64 S.Z), (9, .int .i64 (M z))]) (fun z => hq w (fe0 S p.us w) (smK S p.us w)) ⟨0, by omega, ?_⟩ (fun z hz => ?_)
      · refine TWk.hE (by simp only [ehq, hw, prR, prC, unsC, unC, unR, List.cons_append, List.nil_append, Nat.reduceAdd, Nat.reduceMul, fedR, recR, ps1, fe0, fe1, upU, Nat.reduceLT, Nat.reduceEqDiff, Nat.lt_irrefl, reduceIte]; rfl) (TWk.fcanonR env 0 (by rfl) ?_)
        repeat' (first
          | exact M0
          | with_reducible first | refine Tw.seq ?_ | refine Tw.reg ?_ | refine Tw.block ?_ | refine Tw.scope ?_ | refine Tw.skip ?_ | refine Tw.exit ?_ | refine Tw.ret ?_ | refine seqN ?_ | refine seqR ?_ | refine seqE ?_ | refine rndN ?_ | refine blkN ?_ | refine blkR ?_ | refine blkE1 ?_ | refine blkE0 (by kernel_rfl) ?_ | refine scpN ?_ | refine scpR ?_ | refine scpE ?_ | refine TOps.nil ?_ | exact Conj.nil | refine Conj.cons rfl ?_ | refine Conj.same ?_ | refine Conj.ask ?_ ?_ | refine Tw.regd env ?_ | refine TDr.nil ⟨by kernel_rfl, ?_⟩
          | ((with_reducible refine TOps.any ?_); first | refine TOps.frunP env (by rfl) (by rfl) ?_ ?_ | (refine TOps.known (by rfl) ?_; refine TOps.strip env (by rfl) (by rfl) ?_ ?_) | refine TOps.on (by rfl) (by rfl) ?_)
          | ((with_reducible refine TDr.any ?_); refine TDr.frunP env (by rfl) (by rfl) ?_ ?_)
          | ((with_reducible refine Tw.any ?_); first | refine Tw.condT (by rfl) ?_ | refine Tw.condF (by rfl) ?_)
          | ((first | ((with_reducible refine TOps.any ?_); (fail_if_success refine TOps.known (by rfl) ?_); refine TOps.ask (by rfl) (fun h => ?_) (fun h => ?_)) | ((with_reducible refine TDr.any ?_); (fail_if_success refine TDr.known (by first | rfl | assumption) ?_); refine TDr.ask (by rfl) (fun h hk => ?_) (fun h => ?_)) | ((with_reducible refine Tw.any ?_); refine Tw.cond (by rfl) (fun h => ?_) (fun h => ?_))) <;> (try simp only [goS] at h) <;> (try simp only [rdi, rd6i, rdLiJ, Int.toNat_natCast, Nat.add_zero] at h))
          | ((with_reducible refine tret.any ?_); first | refine tret.ok (by rfl) ?_ | refine tret.okN (by rfl) ?_)
          | ((with_reducible refine Due.mk ?_); (first | with_reducible rfl | omega | assumption | decide | ((try simp only [goS] at *) <;> (try intro h) <;> (try intro h') <;> (try simp only [goS] at *) <;> (try simp only [rdi, rd6i, rdLiJ, Int.toNat_natCast, Nat.add_zero] at *) <;> (try simp only [rng]) <;> (first | assumption | omega)) | (exact due_app0 (by omega)) | (exact due_app (by omega)) | (intros; simp; done) | (intros; simp; omega)))
          | with_reducible refine Due.mk ?_
          | omega)
      rcases Nat.lt_or_ge z S.Z with hz | hz
      · refine Tw.hE (by simp only [ehq, hw, prR, prC, unsC, unC, unR, List.cons_append, List.nil_append, Nat.reduceAdd, Nat.reduceMul, fedR, recR, ps1, fe0, fe1, upU, Nat.reduceLT, Nat.reduceEqDiff, Nat.lt_irrefl, reduceIte]; rfl) ?_
        repeat' (first
          | with_reducible first | refine Tw.seq ?_ | refine Tw.reg ?_ | refine Tw.block ?_ | refine Tw.scope ?_ | refine Tw.skip ?_ | refine Tw.exit ?_ | refine Tw.ret ?_ | refine seqN ?_ | refine seqR ?_ | refine seqE ?_ | refine rndN ?_ | refine blkN ?_ | refine blkR ?_ | refine blkE1 ?_ | refine blkE0 (by kernel_rfl) ?_ | refine scpN ?_ | refine scpR ?_ | refine scpE ?_ | refine TOps.nil ?_ | exact Conj.nil | refine Conj.cons rfl ?_ | refine Conj.same ?_ | refine Conj.ask ?_ ?_ | refine Tw.regd env ?_ | refine TDr.nil ⟨by kernel_rfl, ?_⟩
          | ((with_reducible refine TOps.any ?_); first | refine TOps.frunP env (by rfl) (by rfl) ?_ ?_ | (refine TOps.known (by rfl) ?_; refine TOps.strip env (by rfl) (by rfl) ?_ ?_) | refine TOps.on (by rfl) (by rfl) ?_)
          | ((with_reducible refine TDr.any ?_); refine TDr.frunP env (by rfl) (by rfl) ?_ ?_)
          | ((with_reducible refine Tw.any ?_); first | refine Tw.condT (by rfl) ?_ | refine Tw.condF (by rfl) ?_)
          | ((first | ((with_reducible refine TOps.any ?_); (fail_if_success refine TOps.known (by rfl) ?_); refine TOps.ask (by rfl) (fun h => ?_) (fun h => ?_)) | ((with_reducible refine TDr.any ?_); (fail_if_success refine TDr.known (by first | rfl | assumption) ?_); refine TDr.ask (by rfl) (fun h hk => ?_) (fun h => ?_)) | ((with_reducible refine Tw.any ?_); refine Tw.cond (by rfl) (fun h => ?_) (fun h => ?_))) <;> (try simp only [goS] at h) <;> (try simp only [rdi, rd6i, rdLiJ, skl, hw, Int.toNat_natCast, Nat.add_zero] at h) <;> (try (exfalso; (try simp only [goP, reduceCtorEq] at h) <;> (first | assumption | omega | contradiction | (rcases h with ⟨_, _⟩ <;> first | contradiction | omega) | (rcases h with h | h <;> first | contradiction | omega)))))
          | ((with_reducible refine tret.any ?_); first | refine tret.ok (by rfl) ?_ | refine tret.okN (by rfl) ?_)
          | ((with_reducible refine Due.mk ?_); (first | with_reducible rfl | omega | assumption | decide | ((try simp only [goS] at *) <;> (try intro h) <;> (try intro h') <;> (try simp only [goS] at *) <;> (try simp only [rdi, rd6i, rdLiJ, skl, hw, Int.toNat_natCast, Nat.add_zero] at *) <;> (try simp only [rng]) <;> (first | assumption | omega)) | (exact due_app0 (by omega)) | (exact due_app (by omega)) | (intros; simp; done) | (intros; simp; omega)))
          | with_reducible refine Due.mk ?_
          | omega)
        refine ⟨z + 1, by omega, by omega, TWk.hE (by simp only [ehq, hw, prR, prC, unsC, unC, unR, List.cons_append, List.nil_append, Nat.reduceAdd, Nat.reduceMul, fedR, recR, ps1, fe0, fe1, upU, Nat.reduceLT, Nat.reduceEqDiff, Nat.lt_irrefl, reduceIte]; rfl) (TWk.fcanonR env 0 (by rfl) ?_)⟩
        repeat' (first
          | exact Ms z
          | with_reducible first | refine Tw.seq ?_ | refine Tw.reg ?_ | refine Tw.block ?_ | refine Tw.scope ?_ | refine Tw.skip ?_ | refine Tw.exit ?_ | refine Tw.ret ?_ | refine seqN ?_ | refine seqR ?_ | refine seqE ?_ | refine rndN ?_ | refine blkN ?_ | refine blkR ?_ | refine blkE1 ?_ | refine blkE0 (by kernel_rfl) ?_ | refine scpN ?_ | refine scpR ?_ | refine scpE ?_ | refine TOps.nil ?_ | exact Conj.nil | refine Conj.cons rfl ?_ | refine Conj.same ?_ | refine Conj.ask ?_ ?_ | refine Tw.regd env ?_ | refine TDr.nil ⟨by kernel_rfl, ?_⟩
          | ((with_reducible refine TOps.any ?_); first | refine TOps.frunP env (by rfl) (by rfl) ?_ ?_ | (refine TOps.known (by rfl) ?_; refine TOps.strip env (by rfl) (by rfl) ?_ ?_) | refine TOps.on (by rfl) (by rfl) ?_)
          | ((with_reducible refine TDr.any ?_); refine TDr.frunP env (by rfl) (by rfl) ?_ ?_)
          | ((with_reducible refine Tw.any ?_); first | refine Tw.condT (by rfl) ?_ | refine Tw.condF (by rfl) ?_)
          | ((first | ((with_reducible refine TOps.any ?_); (fail_if_success refine TOps.known (by rfl) ?_); refine TOps.ask (by rfl) (fun h => ?_) (fun h => ?_)) | ((with_reducible refine TDr.any ?_); (fail_if_success refine TDr.known (by first | rfl | assumption) ?_); refine TDr.ask (by rfl) (fun h hk => ?_) (fun h => ?_)) | ((with_reducible refine Tw.any ?_); refine Tw.cond (by rfl) (fun h => ?_) (fun h => ?_))) <;> (try simp only [goS] at h) <;> (try simp only [rdi, rd6i, rdLiJ, Int.toNat_natCast, Nat.add_zero] at h))
          | ((with_reducible refine tret.any ?_); first | refine tret.ok (by rfl) ?_ | refine tret.okN (by rfl) ?_)
          | ((with_reducible refine Due.mk ?_); (first | with_reducible rfl | omega | assumption | decide | ((try simp only [goS] at *) <;> (try intro h) <;> (try intro h') <;> (try simp only [goS] at *) <;> (try simp only [rdi, rd6i, rdLiJ, Int.toNat_natCast, Nat.add_zero] at *) <;> (try simp only [rng]) <;> (first | assumption | omega)) | (exact due_app0 (by omega)) | (exact due_app (by omega)) | (intros; simp; done) | (intros; simp; omega)))
          | with_reducible refine Due.mk ?_
          | omega)
      · obtain rfl : z = S.Z := by omega
        refine Tw.hE (by simp only [ehq, hw, prR, prC, unsC, unC, unR, List.cons_append, List.nil_append, Nat.reduceAdd, Nat.reduceMul, fedR, recR, ps1, fe0, fe1, upU, Nat.reduceLT, Nat.reduceEqDiff, Nat.lt_irrefl, reduceIte]; rfl) ?_
        refine Tw.frzD env 2 (by rfl) (by rfl) (by rfl) ?_ ?_ ?_
        · repeat' (first
            | with_reducible first | refine Tw.seq ?_ | refine Tw.reg ?_ | refine Tw.block ?_ | refine Tw.scope ?_ | refine Tw.skip ?_ | refine Tw.exit ?_ | refine Tw.ret ?_ | refine seqN ?_ | refine seqR ?_ | refine seqE ?_ | refine rndN ?_ | refine blkN ?_ | refine blkR ?_ | refine blkE1 ?_ | refine blkE0 (by kernel_rfl) ?_ | refine scpN ?_ | refine scpR ?_ | refine scpE ?_ | refine TOps.nil ?_ | exact Conj.nil | refine Conj.cons rfl ?_ | refine Conj.same ?_ | refine Conj.ask ?_ ?_ | refine Tw.regd env ?_ | refine TDr.nil ⟨by kernel_rfl, ?_⟩
            | ((with_reducible refine TOps.any ?_); first | refine TOps.frunP env (by rfl) (by rfl) ?_ ?_ | (refine TOps.known (by rfl) ?_; refine TOps.strip env (by rfl) (by rfl) ?_ ?_) | refine TOps.on (by rfl) (by rfl) ?_)
            | ((with_reducible refine TDr.any ?_); refine TDr.frunP env (by rfl) (by rfl) ?_ ?_)
            | ((with_reducible refine Tw.any ?_); first | refine Tw.condT (by rfl) ?_ | refine Tw.condF (by rfl) ?_)
            | ((first | ((with_reducible refine TOps.any ?_); (fail_if_success refine TOps.known (by rfl) ?_); refine TOps.ask (by rfl) (fun h => ?_) (fun h => ?_)) | ((with_reducible refine TDr.any ?_); (fail_if_success refine TDr.known (by first | rfl | assumption) ?_); refine TDr.ask (by rfl) (fun h hk => ?_) (fun h => ?_)) | ((with_reducible refine Tw.any ?_); refine Tw.cond (by rfl) (fun h => ?_) (fun h => ?_))) <;> (try simp only [goS] at h) <;> (try simp only [rdi, rd6i, rdLiJ, shl, Int.toNat_natCast, Nat.add_zero] at h))
            | ((with_reducible refine tret.any ?_); first | refine tret.ok (by rfl) ?_ | refine tret.okN (by rfl) ?_)
            | ((with_reducible refine Due.mk ?_); (first | with_reducible rfl | omega | assumption | decide | ((try simp only [goS] at *) <;> (try intro h) <;> (try intro h') <;> (try simp only [goS] at *) <;> (try simp only [rdi, rd6i, rdLiJ, shl, Int.toNat_natCast, Nat.add_zero] at *) <;> (try simp only [rng]) <;> (first | assumption | omega)) | (exact due_app0 (by omega)) | (exact due_app (by omega)) | (intros; simp; done) | (intros; simp; omega)))
            | with_reducible refine Due.mk ?_
            | omega)
        · repeat' (first
            | with_reducible first | refine Tw.seq ?_ | refine Tw.reg ?_ | refine Tw.block ?_ | refine Tw.scope ?_ | refine Tw.skip ?_ | refine Tw.exit ?_ | refine Tw.ret ?_ | refine seqN ?_ | refine seqR ?_ | refine seqE ?_ | refine rndN ?_ | refine blkN ?_ | refine blkR ?_ | refine blkE1 ?_ | refine blkE0 (by kernel_rfl) ?_ | refine scpN ?_ | refine scpR ?_ | refine scpE ?_ | refine TOps.nil ?_ | exact Conj.nil | refine Conj.cons rfl ?_ | refine Conj.same ?_ | refine Conj.ask ?_ ?_ | refine Tw.regd env ?_ | refine TDr.nil ⟨by kernel_rfl, ?_⟩
            | ((with_reducible refine TOps.any ?_); first | refine TOps.frunP env (by rfl) (by rfl) ?_ ?_ | (refine TOps.known (by rfl) ?_; refine TOps.strip env (by rfl) (by rfl) ?_ ?_) | refine TOps.on (by rfl) (by rfl) ?_)
            | ((with_reducible refine TDr.any ?_); refine TDr.frunP env (by rfl) (by rfl) ?_ ?_)
            | ((with_reducible refine Tw.any ?_); first | refine Tw.condT (by rfl) ?_ | refine Tw.condF (by rfl) ?_)
            | ((first | ((with_reducible refine TOps.any ?_); (fail_if_success refine TOps.known (by rfl) ?_); refine TOps.ask (by rfl) (fun h => ?_) (fun h => ?_)) | ((with_reducible refine TDr.any ?_); (fail_if_success refine TDr.known (by first | rfl | assumption) ?_); refine TDr.ask (by rfl) (fun h hk => ?_) (fun h => ?_)) | ((with_reducible refine Tw.any ?_); refine Tw.cond (by rfl) (fun h => ?_) (fun h => ?_))) <;> (try simp only [goS] at h) <;> (try simp only [rdi, rd6i, rdLiJ, shl, Int.toNat_natCast, Nat.add_zero] at h))
            | ((with_reducible refine tret.any ?_); first | refine tret.ok (by rfl) ?_ | refine tret.okN (by rfl) ?_)
            | ((with_reducible refine Due.mk ?_); (first | with_reducible rfl | omega | assumption | decide | ((try simp only [goS] at *) <;> (try intro h) <;> (try intro h') <;> (try simp only [goS] at *) <;> (try simp only [rdi, rd6i, rdLiJ, shl, Int.toNat_natCast, Nat.add_zero] at *) <;> (try simp only [rng]) <;> (first | assumption | omega)) | (exact due_app0 (by omega)) | (exact due_app (by omega)) | (intros; simp; done) | (intros; simp; omega)))
            | with_reducible refine Due.mk ?_
            | omega)
        refine Tw.reP (H' := hd) (by rw [ehd]; rfl) ?_
        refine Tw.hE (by simp only [ehd, fdnR, prR, prC, unsC, unC, unR, List.cons_append, List.nil_append, Nat.reduceAdd, Nat.reduceMul, fedR, recR, ps1, fe0, fe1, upU, Nat.reduceLT, Nat.reduceEqDiff, Nat.lt_irrefl, reduceIte]; rfl) ?_
        refine Tw.frzD env 1 (by rfl) (by rfl) (by rfl) ?_ ?_ ?_
        · repeat' (first
            | with_reducible first | refine Tw.seq ?_ | refine Tw.reg ?_ | refine Tw.block ?_ | refine Tw.scope ?_ | refine Tw.skip ?_ | refine Tw.exit ?_ | refine Tw.ret ?_ | refine seqN ?_ | refine seqR ?_ | refine seqE ?_ | refine rndN ?_ | refine blkN ?_ | refine blkR ?_ | refine blkE1 ?_ | refine blkE0 (by kernel_rfl) ?_ | refine scpN ?_ | refine scpR ?_ | refine scpE ?_ | refine TOps.nil ?_ | exact Conj.nil | refine Conj.cons rfl ?_ | refine Conj.same ?_ | refine Conj.ask ?_ ?_ | refine Tw.regd env ?_ | refine TDr.nil ⟨by kernel_rfl, ?_⟩
            | ((with_reducible refine TOps.any ?_); first | refine TOps.frunP env (by rfl) (by rfl) ?_ ?_ | (refine TOps.known (by rfl) ?_; refine TOps.strip env (by rfl) (by rfl) ?_ ?_) | refine TOps.on (by rfl) (by rfl) ?_)
            | ((with_reducible refine TDr.any ?_); refine TDr.frunP env (by rfl) (by rfl) ?_ ?_)
            | ((with_reducible refine Tw.any ?_); first | refine Tw.condT (by rfl) ?_ | refine Tw.condF (by rfl) ?_)
            | ((first | ((with_reducible refine TOps.any ?_); (fail_if_success refine TOps.known (by rfl) ?_); refine TOps.ask (by rfl) (fun h => ?_) (fun h => ?_)) | ((with_reducible refine TDr.any ?_); (fail_if_success refine TDr.known (by first | rfl | assumption) ?_); refine TDr.ask (by rfl) (fun h hk => ?_) (fun h => ?_)) | ((with_reducible refine Tw.any ?_); refine Tw.cond (by rfl) (fun h => ?_) (fun h => ?_))) <;> (try simp only [goS] at h) <;> (try simp only [rdi, rd6i, rdLiJ, fll, Int.toNat_natCast, Nat.add_zero] at h))
            | ((with_reducible refine tret.any ?_); first | refine tret.ok (by rfl) ?_ | refine tret.okN (by rfl) ?_)
            | ((with_reducible refine Due.mk ?_); (first | with_reducible rfl | omega | assumption | decide | ((try simp only [goS] at *) <;> (try intro h) <;> (try intro h') <;> (try simp only [goS] at *) <;> (try simp only [rdi, rd6i, rdLiJ, fll, Int.toNat_natCast, Nat.add_zero] at *) <;> (try simp only [rng]) <;> (first | assumption | omega)) | (exact due_app0 (by omega)) | (exact due_app (by omega)) | (intros; simp; done) | (intros; simp; omega)))
            | with_reducible refine Due.mk ?_
            | omega)
        · repeat' (first
            | with_reducible first | refine Tw.seq ?_ | refine Tw.reg ?_ | refine Tw.block ?_ | refine Tw.scope ?_ | refine Tw.skip ?_ | refine Tw.exit ?_ | refine Tw.ret ?_ | refine seqN ?_ | refine seqR ?_ | refine seqE ?_ | refine rndN ?_ | refine blkN ?_ | refine blkR ?_ | refine blkE1 ?_ | refine blkE0 (by kernel_rfl) ?_ | refine scpN ?_ | refine scpR ?_ | refine scpE ?_ | refine TOps.nil ?_ | exact Conj.nil | refine Conj.cons rfl ?_ | refine Conj.same ?_ | refine Conj.ask ?_ ?_ | refine Tw.regd env ?_ | refine TDr.nil ⟨by kernel_rfl, ?_⟩
            | ((with_reducible refine TOps.any ?_); first | refine TOps.frunP env (by rfl) (by rfl) ?_ ?_ | (refine TOps.known (by rfl) ?_; refine TOps.strip env (by rfl) (by rfl) ?_ ?_) | refine TOps.on (by rfl) (by rfl) ?_)
            | ((with_reducible refine TDr.any ?_); refine TDr.frunP env (by rfl) (by rfl) ?_ ?_)
            | ((with_reducible refine Tw.any ?_); first | refine Tw.condT (by rfl) ?_ | refine Tw.condF (by rfl) ?_)
            | ((first | ((with_reducible refine TOps.any ?_); (fail_if_success refine TOps.known (by rfl) ?_); refine TOps.ask (by rfl) (fun h => ?_) (fun h => ?_)) | ((with_reducible refine TDr.any ?_); (fail_if_success refine TDr.known (by first | rfl | assumption) ?_); refine TDr.ask (by rfl) (fun h hk => ?_) (fun h => ?_)) | ((with_reducible refine Tw.any ?_); refine Tw.cond (by rfl) (fun h => ?_) (fun h => ?_))) <;> (try simp only [goS] at h) <;> (try simp only [rdi, rd6i, rdLiJ, fll, Int.toNat_natCast, Nat.add_zero] at h))
            | ((with_reducible refine tret.any ?_); first | refine tret.ok (by rfl) ?_ | refine tret.okN (by rfl) ?_)
            | ((with_reducible refine Due.mk ?_); (first | with_reducible rfl | omega | assumption | decide | ((try simp only [goS] at *) <;> (try intro h) <;> (try intro h') <;> (try simp only [goS] at *) <;> (try simp only [rdi, rd6i, rdLiJ, fll, Int.toNat_natCast, Nat.add_zero] at *) <;> (try simp only [rng]) <;> (first | assumption | omega)) | (exact due_app0 (by omega)) | (exact due_app (by omega)) | (intros; simp; done) | (intros; simp; omega)))
            | with_reducible refine Due.mk ?_
            | omega)
        simp only [prR, prC, unsC, unC, unR, List.cons_append, List.nil_append, Nat.reduceAdd, Nat.reduceMul, fedR, recR, ps1, fe0, fe1, upU, Nat.reduceLT, Nat.reduceEqDiff, Nat.lt_irrefl, reduceIte] at gd
        by_cases hj : 0 < p.j
        · rw [sj hj, fp hj]
          clear sj sy sn fp fn
          repeat' (first
            | with_reducible first | refine Tw.seq ?_ | refine Tw.reg ?_ | refine Tw.block ?_ | refine Tw.scope ?_ | refine Tw.skip ?_ | refine Tw.exit ?_ | refine Tw.ret ?_ | refine seqN ?_ | refine seqR ?_ | refine seqE ?_ | refine rndN ?_ | refine blkN ?_ | refine blkR ?_ | refine blkE1 ?_ | refine blkE0 (by kernel_rfl) ?_ | refine scpN ?_ | refine scpR ?_ | refine scpE ?_ | refine TOps.nil ?_ | exact Conj.nil | refine Conj.cons rfl ?_ | refine Conj.same ?_ | refine Conj.ask ?_ ?_ | refine Tw.regd env ?_ | refine TDr.nil ⟨by kernel_rfl, ?_⟩
            | ((with_reducible refine TOps.any ?_); first | refine TOps.frunP env (by rfl) (by rfl) ?_ ?_ | (refine TOps.known (by rfl) ?_; refine TOps.strip env (by rfl) (by rfl) ?_ ?_) | refine TOps.on (by rfl) (by rfl) ?_)
            | ((with_reducible refine TDr.any ?_); refine TDr.frunP env (by rfl) (by rfl) ?_ ?_)
            | ((with_reducible refine Tw.any ?_); first | refine Tw.condT (by rfl) ?_ | refine Tw.condF (by rfl) ?_)
            | ((first | ((with_reducible refine TOps.any ?_); (fail_if_success refine TOps.known (by rfl) ?_); refine TOps.ask (by rfl) (fun h => ?_) (fun h => ?_)) | ((with_reducible refine TDr.any ?_); (fail_if_success refine TDr.known (by first | rfl | assumption) ?_); refine TDr.ask (by rfl) (fun h hk => ?_) (fun h => ?_)) | ((with_reducible refine Tw.any ?_); refine Tw.cond (by rfl) (fun h => ?_) (fun h => ?_))) <;> (try simp only [goS] at h) <;> (try simp only [rdi, rd6i, rdLiJ, Int.toNat_natCast, Nat.add_zero] at h) <;> (try (exfalso; (try simp only [goP, reduceCtorEq] at h) <;> (first | assumption | omega | contradiction | (rcases h with ⟨_, _⟩ <;> first | contradiction | omega) | (rcases h with h | h <;> first | contradiction | omega)))))
            | ((with_reducible refine tret.any ?_); first | refine tret.ok (by rfl) ?_ | refine tret.okN (by rfl) ?_)
            | ((with_reducible refine Due.mk ?_); (first | with_reducible rfl | omega | assumption | decide | ((try simp only [goS] at *) <;> (try intro h) <;> (try intro h') <;> (try simp only [goS] at *) <;> (try simp only [rdi, rd6i, rdLiJ, Int.toNat_natCast, Nat.add_zero] at *) <;> (try simp only [rng]) <;> (first | assumption | omega)) | (exact due_app0 (by omega)) | (exact due_app (by omega)) | (intros; simp; done) | (intros; simp; omega)))
            | with_reducible refine Due.mk ?_
            | omega)
          exact ⟨rfl, rfl⟩
        · rw [fn hj]
          have sy := sy hj
          have sn := sn hj
          clear fp fn sj
          cases gq
          · rw [sn rfl]
            clear sn sy
            repeat' (first
              | ((with_reducible refine TOps.any ?_); refine callI env _ (gd) (by rfl) (by rfl) (by rfl) (by simp only [List.length_cons, List.length_nil, Nat.reduceAdd]; rfl) (by rfl) (by rfl) (by rfl) (by rfl) (by rfl) ?_)
              | with_reducible first | refine Tw.seq ?_ | refine Tw.reg ?_ | refine Tw.block ?_ | refine Tw.scope ?_ | refine Tw.skip ?_ | refine Tw.exit ?_ | refine Tw.ret ?_ | refine seqN ?_ | refine seqR ?_ | refine seqE ?_ | refine rndN ?_ | refine blkN ?_ | refine blkR ?_ | refine blkE1 ?_ | refine blkE0 (by kernel_rfl) ?_ | refine scpN ?_ | refine scpR ?_ | refine scpE ?_ | refine TOps.nil ?_ | exact Conj.nil | refine Conj.cons rfl ?_ | refine Conj.same ?_ | refine Conj.ask ?_ ?_ | refine Tw.regd env ?_ | refine TDr.nil ⟨by kernel_rfl, ?_⟩
              | ((with_reducible refine TOps.any ?_); first | refine TOps.frunP env (by rfl) (by rfl) ?_ ?_ | (refine TOps.known (by rfl) ?_; refine TOps.strip env (by rfl) (by rfl) ?_ ?_) | refine TOps.on (by rfl) (by rfl) ?_)
              | ((with_reducible refine TDr.any ?_); refine TDr.frunP env (by rfl) (by rfl) ?_ ?_)
              | ((with_reducible refine Tw.any ?_); first | refine Tw.condT (by rfl) ?_ | refine Tw.condF (by rfl) ?_)
              | ((first | ((with_reducible refine TOps.any ?_); (fail_if_success refine TOps.known (by rfl) ?_); refine TOps.ask (by rfl) (fun h => ?_) (fun h => ?_)) | ((with_reducible refine TDr.any ?_); (fail_if_success refine TDr.known (by first | rfl | assumption) ?_); refine TDr.ask (by rfl) (fun h hk => ?_) (fun h => ?_)) | ((with_reducible refine Tw.any ?_); refine Tw.cond (by rfl) (fun h => ?_) (fun h => ?_))) <;> (try simp only [goS] at h) <;> (try simp only [rdi, rd6i, rdLiJ, Int.toNat_natCast, Nat.add_zero] at h) <;> (try (exfalso; (try simp only [goP, reduceCtorEq] at h) <;> (first | assumption | omega | contradiction | (rcases h with ⟨_, _⟩ <;> first | contradiction | omega) | (rcases h with h | h <;> first | contradiction | omega)))))
              | ((with_reducible refine tret.any ?_); first | refine tret.ok (by rfl) ?_ | refine tret.okN (by rfl) ?_)
              | ((with_reducible refine Due.mk ?_); (first | with_reducible rfl | omega | assumption | decide | ((try simp only [goS] at *) <;> (try intro h) <;> (try intro h') <;> (try simp only [goS] at *) <;> (try simp only [rdi, rd6i, rdLiJ, Int.toNat_natCast, Nat.add_zero] at *) <;> (try simp only [rng]) <;> (first | assumption | omega)) | (exact due_app0 (by omega)) | (exact due_app (by omega)) | (intros; simp; done) | (intros; simp; omega)))
              | with_reducible refine Due.mk ?_
              | omega)
            exact ⟨rfl, rfl⟩
          · rw [sy rfl]
            clear sn sy
            repeat' (first
              | ((with_reducible refine TOps.any ?_); refine callI env _ (gd) (by rfl) (by rfl) (by rfl) (by simp only [List.length_cons, List.length_nil, Nat.reduceAdd]; rfl) (by rfl) (by rfl) (by rfl) (by rfl) (by rfl) ?_)
              | with_reducible first | refine Tw.seq ?_ | refine Tw.reg ?_ | refine Tw.block ?_ | refine Tw.scope ?_ | refine Tw.skip ?_ | refine Tw.exit ?_ | refine Tw.ret ?_ | refine seqN ?_ | refine seqR ?_ | refine seqE ?_ | refine rndN ?_ | refine blkN ?_ | refine blkR ?_ | refine blkE1 ?_ | refine blkE0 (by kernel_rfl) ?_ | refine scpN ?_ | refine scpR ?_ | refine scpE ?_ | refine TOps.nil ?_ | exact Conj.nil | refine Conj.cons rfl ?_ | refine Conj.same ?_ | refine Conj.ask ?_ ?_ | refine Tw.regd env ?_ | refine TDr.nil ⟨by kernel_rfl, ?_⟩
              | ((with_reducible refine TOps.any ?_); first | refine TOps.frunP env (by rfl) (by rfl) ?_ ?_ | (refine TOps.known (by rfl) ?_; refine TOps.strip env (by rfl) (by rfl) ?_ ?_) | refine TOps.on (by rfl) (by rfl) ?_)
              | ((with_reducible refine TDr.any ?_); refine TDr.frunP env (by rfl) (by rfl) ?_ ?_)
              | ((with_reducible refine Tw.any ?_); first | refine Tw.condT (by rfl) ?_ | refine Tw.condF (by rfl) ?_)
              | ((first | ((with_reducible refine TOps.any ?_); (fail_if_success refine TOps.known (by rfl) ?_); refine TOps.ask (by rfl) (fun h => ?_) (fun h => ?_)) | ((with_reducible refine TDr.any ?_); (fail_if_success refine TDr.known (by first | rfl | assumption) ?_); refine TDr.ask (by rfl) (fun h hk => ?_) (fun h => ?_)) | ((with_reducible refine Tw.any ?_); refine Tw.cond (by rfl) (fun h => ?_) (fun h => ?_))) <;> (try simp only [goS] at h) <;> (try simp only [rdi, rd6i, rdLiJ, Int.toNat_natCast, Nat.add_zero] at h) <;> (try (exfalso; (try simp only [goP, reduceCtorEq] at h) <;> (first | assumption | omega | contradiction | (rcases h with ⟨_, _⟩ <;> first | contradiction | omega) | (rcases h with h | h <;> first | contradiction | omega)))))
              | ((with_reducible refine tret.any ?_); first | refine tret.ok (by rfl) ?_ | refine tret.okN (by rfl) ?_)
              | ((with_reducible refine Due.mk ?_); (first | with_reducible rfl | omega | assumption | decide | ((try simp only [goS] at *) <;> (try intro h) <;> (try intro h') <;> (try simp only [goS] at *) <;> (try simp only [rdi, rd6i, rdLiJ, Int.toNat_natCast, Nat.add_zero] at *) <;> (try simp only [rng]) <;> (first | assumption | omega)) | (exact due_app0 (by omega)) | (exact due_app (by omega)) | (intros; simp; done) | (intros; simp; omega)))
              | with_reducible refine Due.mk ?_
              | omega)
            exact ⟨rfl, rfl⟩) : feed_c_P n8 := h8
theorem feed_c_1 : feed_c_P 1 := feed_c_A
theorem feed_c_2 : feed_c_P 2 := feed_c_A
theorem feed_c_3 : feed_c_P 3 := feed_c_A
theorem feed_c_4 : feed_c_P 4 := feed_c_A
theorem feed_c_5 : feed_c_P 5 := feed_c_A
end Go.Proofs.Ytbaepacihkgalaa
