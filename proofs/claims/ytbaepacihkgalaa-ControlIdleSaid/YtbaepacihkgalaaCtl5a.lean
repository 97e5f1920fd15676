/- Controllers: a press is run under a controller. -/
import Derived.Test.YtbaepacihkgalaaCtl4
import Derived.Test.YtbaepacihkgalaaPrsY
import Derived.Test.YtbaepacihkgalaaPrsR
namespace Go.Proofs.Ytbaepacihkgalaa
open Go Go.Lite
set_option linter.unusedVariables false
set_option linter.unusedSimpArgs false
set_option maxRecDepth 100000
set_option maxHeartbeats 100000000
-- @long8
-- @simp rdi rd6i rdLiJ rd2i

theorem lpL_succ {S : Su} {u : Nat} {c : Ct} {l : List Ev} {k : Nat} : lpL S u c l (k + 1) = lpL S u c l k ++ [recO S u (lpB S k (lp S u c l k))] := by rw [lpL, tab_succ]; rfl
theorem Tw.frzG {τ : TT} {fl : Nat → Bool} {N : Dim} (E : Env A R Try.prog τ fl) (g : Nat → Nat) {e : Nat} {xs : List (A e)} {s : SC} {Q : TPost A} {F F' : TF A} {H H' : TH A} {p q : List Prop} (hm : Nat.ble N.m (g H.length) = true) (hr : trow H (g H.length) = some (.arr e xs))
    (h : (match tfzF R (g H.length) e xs F with | (p, F') => match tfzH R (g H.length) e xs 0 H with | (q, H') => fF F' fun F' => fH H' fun H' => fC p fun p => fC q fun q => (p, q, F', H')) = (p, q, F', H')) (hp : Conj p) (hq : Conj q) (k : Tw R Try.prog N s Q F' H') : Tw R Try.prog N s Q F H := Tw.frz E _ hm hr h hp hq k
theorem take_fold' {α β : Type} (f : β → α → β) (p : β) (l : List α) (d : α) {i : Nat} (h : i < l.length) : (l.take (i + 1)).foldl f p = f ((l.take i).foldl f p) (l.getD i d) := by
  rw [List.take_add_one, List.foldl_append, List.getElem?_eq_getElem h, List.getD_eq_getElem?_getD, List.getElem?_eq_getElem h]; rfl
def thd : Nat → Nat
  | n + 3 => thd n + 1
  | _ => 0
theorem tkE_len {k : Int} : ∀ l : List Ev, (tkE k l).2.length ≤ l.length
  | [] => Nat.le_refl _
  | v :: l => by
    have := tkE_len (k := k) l
    rw [tkE]
    split
    · simp only [List.length_cons]; omega
    · exact Nat.le_refl _
theorem lp_rest {S : Su} {u : Nat} {c : Ct} {l : List Ev} : ∀ k, (lp S u c l k).rest.length ≤ l.length
  | 0 => Nat.le_refl _
  | k + 1 => Nat.le_trans (tkE_len _) (lp_rest k)
theorem lp_own {S : Su} {u : Nat} {c : Ct} {l : List Ev} (hu : u ≤ 8) (hZ : S.Z ≤ 16) : ∀ k, (lp S u c l k).own.length ≤ 136
  | 0 => by show (([] : List Ev)).length ≤ 136; simp
  | k + 1 => by
    have h : (feE S (lp S u c l k).c _ _ u).length ≤ _ := feE_len (S := S) (c := (lp S u c l k).c) (sh := shK S (lpB S k (lp S u c l k)).us u) (fm := flL S (lpB S k (lp S u c l k)).us u 0) u
    have h3 : u * (S.Z + 1) ≤ 8 * 17 := Nat.mul_le_mul (Nat.le_of_lt_succ (by omega)) (by omega)
    exact Nat.le_trans h (by omega)
theorem tkE_stop {k : Int} {r : List Ev} (h : ¬ (0 < r.length ∧ (r.getD 0 (0, 0, 0, 0, 0, 0)).1 = k)) : tkE k r = ([], r) := by
  cases r with
  | nil => rfl
  | cons v r =>
    have h' : ¬ v.1 = k := fun e => h ⟨by simp, e⟩
    rw [tkE, if_neg h']
def loop_c_P (n8 : Nat) : Prop := ∀ (S : Su) (u : Nat) (ci cr : Int) (l : List Ev) (n : Nat) (so : SuOk S u) (hc : chkE S.Z S.mr S.rg S.tol S.tg S.ks S.ld = 0) (h0 : ctlE ci cr = 0) (hs : scE l u S.Z = 0) (hl : l.length ≤ 200) (hn : Due (n ≤ 3999)) (e8 : u = n8), TC R Try.prog control_Loop_f [.agg [.int .i64 S.Z, .int .i64 S.mr, .int .i64 S.rg, .int .i64 S.tol, .lst Ei S.tg, .lst ELiJ S.ks, .lst ELiJ S.ld], .agg [.int .i64 ci, .int .i64 cr], .lst E6i l, .int .i64 n] [] (fun v X => v = .tup [.lst E2iL2iJLLiJJi (lpL S u (newCt S ci cr) l n), .int .i64 0] ∧ X = [])
theorem loop_c_A {n8 : Nat} (h8 : loop_c_P n8 := by
    intro S u ci cr l n so hc h0 hs hl hn e8
    dsimp only [Due] at hn
    have tl := so.tl
    have hu := so.un
    have hZ := so.Z
    have nc := new_c S u so hc
    have sh := prB_sh (b := 2) (S := S) (u := u) (p := newP S)
    have cn := cnew_c S u ci cr so hc h0
    have shc := ctB_sh (b := 2 * u + 4) (S := S) (u := u) (c := newCt S ci cr)
    have sc := script_c l S.tg.length S.Z (by dsimp only [Due]; omega)
    have e0 : scE l S.tg.length S.Z = 0 := by rw [tl]; exact hs
    rw [e0] at sc
    have ok := lp_ok so (newCt_ok so h0) rfl (scE_all hs hl)
    refine tc0 env control_Loop_s (by rfl) ?_
    dsimp only [control_Loop_c]
    obtain ⟨st, est⟩ : ∃ st : Nat → Lp, st = lp S u (newCt S ci cr) l := ⟨_, rfl⟩
    have ol := fun k => lp_own (S := S) (u := u) (c := newCt S ci cr) (l := l) (by omega) (by omega) k
    have rl0 := fun k => lp_rest (S := S) (u := u) (c := newCt S ci cr) (l := l) k
    rw [← est] at ok ol rl0
    have pev := fun p ok s k un zn x y => pev_c S u p so ok s k un zn x y
    have fed := fun p ok hn => feed_c S u p so ok hn
    have okB := fun k (h : LpOk S u k (st k)) => lpB_ok so h
    have rcB := fun p (h : PsOk S u p) => rc_ok so h
    have cfd := fun c st dr sh fm ck hn ok => cfeed_c S u c st dr sh fm so ck hn ok
    have evok := fun p ok s k un zn x y => evP_ok (p := p) so ok (s := s) (k := k) (un := un) (zn := zn) (x := x) (y := y)
    have st0 : st 0 = { p := newP S, c := newCt S ci cr, own := [], rest := l } := by rw [est]; rfl
    have stS : ∀ k, st (k + 1) = lpS S u k (st k) := fun k => by rw [est]; rfl
    obtain ⟨LL, eLL⟩ : ∃ LL : Nat → List SRec, LL = lpL S u (newCt S ci cr) l := ⟨_, rfl⟩
    have LS : ∀ k, LL (k + 1) = LL k ++ [recO S u (lpB S k (st k))] := fun k => by rw [eLL, est, lpL_succ]
    have L0 : LL 0 = [] := by rw [eLL]; rfl
    have rl : ∀ k, (LL k).length = k := fun k => by rw [eLL]; exact tab_len
    rw [← eLL]
    clear est eLL
    obtain ⟨w, hw⟩ : ∃ w, w = u := ⟨_, rfl⟩
    obtain ⟨hF, ehF⟩ : ∃ hF : Nat → List (Nat × TV A), hF = fun k => [(17, .int .i64 ((k : Int) + 1)), (15, .sla 5 (2 * u + 2) 0 k), (16, .sla 6 (2 * u + 3) 0 (st k).own.length), (2, .lst E6i (st k).rest), (10, .ptr 0 0), (12, .ptr (2 * u + 4) 0), (14, .fn __press_Press__Event_f [.und, .ptr 0 0])] := ⟨_, rfl⟩
    obtain ⟨hp, ehp⟩ : ∃ hp : Nat → List (Option (TRow A)), hp = fun k => prR S u (st k).p ++ [some (.arr E2iL2iJLLiJJi (LL k)), some (.arr E6i (st k).own)] ++ ctB (2 * u + 4) S u (st k).c := ⟨_, rfl⟩
    obtain ⟨hF2, ehF2⟩ : ∃ hF2 : Nat → List Ev × List Ev → List (Nat × TV A), hF2 = fun k q => [(17, .int .i64 ((k : Int) + 1)), (15, .sla 5 (2 * u + 2) 0 k), (16, .sla 6 (2 * u + 3) 0 q.1.length), (2, .lst E6i q.2), (10, .ptr 0 0), (12, .ptr (2 * u + 4) 0), (14, .fn __press_Press__Event_f [.und, .ptr 0 0])] := ⟨_, rfl⟩
    obtain ⟨hp2, ehp2⟩ : ∃ hp2 : Nat → List Ev → List (Option (TRow A)), hp2 = fun k o => prR S u (st k).p ++ [some (.arr E2iL2iJLLiJJi (LL k)), some (.arr E6i o)] ++ ctB (2 * u + 4) S u (st k).c := ⟨_, rfl⟩
    obtain ⟨hp3, ehp3⟩ : ∃ hp3 : Nat → List Ev → Ps → List (Option (TRow A)), hp3 = fun k o p => prR S u p ++ [some (.arr E2iL2iJLLiJJi (LL k)), some (.arr E6i o)] ++ ctB (2 * u + 4) S u (st k).c := ⟨_, rfl⟩
    subst e8
    simp only [prB, prD, unsB, unC, unR, List.cons_append, List.nil_append, Nat.reduceAdd, Nat.reduceMul] at sh
    simp only [ctB, ctD, ksB, ksR, List.cons_append, List.nil_append, Nat.reduceAdd, Nat.reduceMul] at shc
    repeat' (first
      | ((with_reducible refine TOps.any ?_); refine callS env _ (nc) (sh) (by rfl) (by rfl) (by rfl) (by rfl) (by rfl) ?_)
      | ((with_reducible refine TOps.any ?_); refine callS env _ (cn) (shc) (by rfl) (by rfl) (by rfl) (by rfl) (by rfl) ?_)
      | ((with_reducible refine TOps.any ?_); refine TOps.callV env (by rfl) (by rfl) (by rfl) (sc) ?_)
      | with_reducible first | refine Tw.seq ?_ | refine Tw.reg ?_ | refine Tw.block ?_ | refine Tw.scope ?_ | refine Tw.skip ?_ | refine Tw.exit ?_ | refine Tw.ret ?_ | refine seqN ?_ | refine seqR ?_ | refine seqE ?_ | refine rndN ?_ | refine blkN ?_ | refine blkR ?_ | refine blkE1 ?_ | refine blkE0 (by kernel_rfl) ?_ | refine scpN ?_ | refine scpR ?_ | refine scpE ?_ | refine TOps.nil ?_ | exact Conj.nil | refine Conj.cons rfl ?_ | refine Conj.same ?_ | refine Conj.ask ?_ ?_ | refine Tw.regd env ?_ | refine TDr.nil ⟨by kernel_rfl, ?_⟩
      | ((with_reducible refine TOps.any ?_); first | refine TOps.frunP env (by rfl) (by rfl) ?_ ?_ | (refine TOps.known (by rfl) ?_; refine TOps.strip env (by rfl) (by rfl) ?_ ?_) | refine TOps.on (by rfl) (by rfl) ?_)
      | ((with_reducible refine TDr.any ?_); refine TDr.frunP env (by rfl) (by rfl) ?_ ?_)
      | ((with_reducible refine Tw.any ?_); first | refine Tw.condT (by rfl) ?_ | refine Tw.condF (by rfl) ?_)
      | ((first | ((with_reducible refine TOps.any ?_); (fail_if_success refine TOps.known (by rfl) ?_); refine TOps.ask (by rfl) (fun h => ?_) (fun h => ?_)) | ((with_reducible refine TDr.any ?_); (fail_if_success refine TDr.known (by first | rfl | assumption) ?_); refine TDr.ask (by rfl) (fun h hk => ?_) (fun h => ?_)) | ((with_reducible refine Tw.any ?_); refine Tw.cond (by rfl) (fun h => ?_) (fun h => ?_))) <;> (try simp only [goS] at h) <;> (try simp only [rdi, rd6i, rdLiJ, rd2i, Int.toNat_natCast, Nat.add_zero] at h) <;> (try (exfalso; (try simp only [goP, reduceCtorEq] at h) <;> (first | assumption | omega | contradiction | (rcases h with ⟨_, _⟩ <;> first | contradiction | omega) | (rcases h with h | h <;> first | contradiction | omega)))))
      | ((with_reducible refine tret.any ?_); first | refine tret.ok (by rfl) ?_ | refine tret.okN (by rfl) ?_)
      | ((with_reducible refine Due.mk ?_); (first | with_reducible rfl | omega | assumption | decide | ((try simp only [goS] at *) <;> (try intro h) <;> (try intro h') <;> (try simp only [goS] at *) <;> (try simp only [rdi, rd6i, rdLiJ, rd2i, Int.toNat_natCast, Nat.add_zero] at *) <;> (try simp only [rng]) <;> (first | assumption | omega)) | (exact due_app0 (by omega)) | (exact due_app (by omega)) | (intros; simp; done) | (intros; simp; omega)))
      | with_reducible refine Due.mk ?_
      | omega)
    refine Tw.loopK [3] (fun k : Nat => k ≤ n) (fun k => n - k) (fun k => hF k) (fun k => hp k) ⟨0, by omega, ?_⟩ (fun k hk => ?_)
    · rw [ehF]
      dsimp only
      rw [st0]
      refine TWk.hE (by simp only [ehp, st0, L0, prR, prC, unsC, unC, unR, ctB, ctD, ksB, ksR, List.cons_append, List.nil_append, List.append_assoc, Nat.reduceAdd, Nat.reduceMul]; rfl) (TWk.fcanonG env (fun n => (List.range' 2 (2 * (thd (n - 6)) + 2)).map some ++ [none, none] ++ (List.range' (2 * (thd (n - 6)) + 4) (thd (n - 6) + 2)).map some) (by rfl) ?_)
      repeat' (first
        | exact L0
        | exact rfl
        | with_reducible first | refine Tw.seq ?_ | refine Tw.reg ?_ | refine Tw.block ?_ | refine Tw.scope ?_ | refine Tw.skip ?_ | refine Tw.exit ?_ | refine Tw.ret ?_ | refine seqN ?_ | refine seqR ?_ | refine seqE ?_ | refine rndN ?_ | refine blkN ?_ | refine blkR ?_ | refine blkE1 ?_ | refine blkE0 (by kernel_rfl) ?_ | refine scpN ?_ | refine scpR ?_ | refine scpE ?_ | refine TOps.nil ?_ | exact Conj.nil | refine Conj.cons rfl ?_ | refine Conj.same ?_ | refine Conj.ask ?_ ?_ | refine Tw.regd env ?_ | refine TDr.nil ⟨by kernel_rfl, ?_⟩
        | ((with_reducible refine TOps.any ?_); first | refine TOps.frunP env (by rfl) (by rfl) ?_ ?_ | (refine TOps.known (by rfl) ?_; refine TOps.strip env (by rfl) (by rfl) ?_ ?_) | refine TOps.on (by rfl) (by rfl) ?_)
        | ((with_reducible refine TDr.any ?_); refine TDr.frunP env (by rfl) (by rfl) ?_ ?_)
        | ((with_reducible refine Tw.any ?_); first | refine Tw.condT (by rfl) ?_ | refine Tw.condF (by rfl) ?_)
        | ((first | ((with_reducible refine TOps.any ?_); (fail_if_success refine TOps.known (by rfl) ?_); refine TOps.ask (by rfl) (fun h => ?_) (fun h => ?_)) | ((with_reducible refine TDr.any ?_); (fail_if_success refine TDr.known (by first | rfl | assumption) ?_); refine TDr.ask (by rfl) (fun h hk => ?_) (fun h => ?_)) | ((with_reducible refine Tw.any ?_); refine Tw.cond (by rfl) (fun h => ?_) (fun h => ?_))) <;> (try simp only [goS] at h) <;> (try simp only [rdi, rd6i, rdLiJ, rd2i, Int.toNat_natCast, Nat.add_zero] at h))
        | ((with_reducible refine tret.any ?_); first | refine tret.ok (by rfl) ?_ | refine tret.okN (by rfl) ?_)
        | ((with_reducible refine Due.mk ?_); (first | with_reducible rfl | omega | assumption | decide | ((try simp only [goS] at *) <;> (try intro h) <;> (try intro h') <;> (try simp only [goS] at *) <;> (try simp only [rdi, rd6i, rdLiJ, rd2i, Int.toNat_natCast, Nat.add_zero] at *) <;> (try simp only [rng]) <;> (first | assumption | omega)) | (exact due_app0 (by omega)) | (exact due_app (by omega)) | (intros; simp; done) | (intros; simp; omega)))
        | with_reducible refine Due.mk ?_
        | omega)
    rw [ehF]
    refine Tw.hE (by simp only [ehp, prR, prC, unsC, unC, unR, ctB, ctD, ksB, ksR, List.cons_append, List.nil_append, List.append_assoc, Nat.reduceAdd, Nat.reduceMul]; rfl) ?_
    clear nc sh cn shc sc
    rcases Nat.lt_or_ge k n with hk | hk
    · have okk := ok k (by omega)
      repeat' (first
        | with_reducible first | refine Tw.seq ?_ | refine Tw.reg ?_ | refine Tw.block ?_ | refine Tw.scope ?_ | refine Tw.skip ?_ | refine Tw.exit ?_ | refine Tw.ret ?_ | refine seqN ?_ | refine seqR ?_ | refine seqE ?_ | refine rndN ?_ | refine blkN ?_ | refine blkR ?_ | refine blkE1 ?_ | refine blkE0 (by kernel_rfl) ?_ | refine scpN ?_ | refine scpR ?_ | refine scpE ?_ | refine TOps.nil ?_ | exact Conj.nil | refine Conj.cons rfl ?_ | refine Conj.same ?_ | refine Conj.ask ?_ ?_ | refine Tw.regd env ?_ | refine TDr.nil ⟨by kernel_rfl, ?_⟩
        | ((with_reducible refine TOps.any ?_); first | refine TOps.frunP env (by rfl) (by rfl) ?_ ?_ | (refine TOps.known (by rfl) ?_; refine TOps.strip env (by rfl) (by rfl) ?_ ?_) | refine TOps.on (by rfl) (by rfl) ?_)
        | ((with_reducible refine TDr.any ?_); refine TDr.frunP env (by rfl) (by rfl) ?_ ?_)
        | ((with_reducible refine Tw.any ?_); first | refine Tw.condT (by rfl) ?_ | refine Tw.condF (by rfl) ?_)
        | ((first | ((with_reducible refine TOps.any ?_); (fail_if_success refine TOps.known (by rfl) ?_); refine TOps.ask (by rfl) (fun h => ?_) (fun h => ?_)) | ((with_reducible refine TDr.any ?_); (fail_if_success refine TDr.known (by first | rfl | assumption) ?_); refine TDr.ask (by rfl) (fun h hk => ?_) (fun h => ?_)) | ((with_reducible refine Tw.any ?_); refine Tw.cond (by rfl) (fun h => ?_) (fun h => ?_))) <;> (try simp only [goS] at h) <;> (try simp only [rdi, rd6i, rdLiJ, rd2i, Int.toNat_natCast, Nat.add_zero] at h) <;> (try (exfalso; (try simp only [goP, reduceCtorEq] at h) <;> (first | assumption | omega | contradiction | (rcases h with ⟨_, _⟩ <;> first | contradiction | omega) | (rcases h with h | h <;> first | contradiction | omega)))))
        | ((with_reducible refine tret.any ?_); first | refine tret.ok (by rfl) ?_ | refine tret.okN (by rfl) ?_)
        | ((with_reducible refine Due.mk ?_); (first | with_reducible rfl | omega | assumption | decide | ((try simp only [goS] at *) <;> (try intro h) <;> (try intro h') <;> (try simp only [goS] at *) <;> (try simp only [rdi, rd6i, rdLiJ, rd2i, Int.toNat_natCast, Nat.add_zero] at *) <;> (try simp only [rng]) <;> (first | assumption | omega)) | (exact due_app0 (by omega)) | (exact due_app (by omega)) | (intros; simp; done) | (intros; simp; omega)))
        | with_reducible refine Due.mk ?_
        | omega)
      refine Tw.loopK [3] (fun q : List Ev × List Ev => q.1 ++ (tkE ((k : Int) + 1) q.2).1 = (st k).own ++ (tkE ((k : Int) + 1) (st k).rest).1 ∧ (tkE ((k : Int) + 1) q.2).2 = (tkE ((k : Int) + 1) (st k).rest).2 ∧ q.1.length + q.2.length ≤ 1000) (fun q => q.2.length) (fun q => hF2 k q) (fun q => hp2 k q.1) ⟨((st k).own, (st k).rest), ⟨rfl, rfl, ?_⟩, ?_⟩ (fun q hq => ?_)
      · have := ol k; have := rl0 k; dsimp only; omega
      · rw [ehF2]
        refine TWk.hE (by simp only [ehp2, prR, prC, unsC, unC, unR, ctB, ctD, ksB, ksR, List.cons_append, List.nil_append, List.append_assoc, Nat.reduceAdd, Nat.reduceMul]; rfl) (TWk.fcanonR env 0 (by rfl) ?_)
        repeat' (first
          | with_reducible first | refine Tw.seq ?_ | refine Tw.reg ?_ | refine Tw.block ?_ | refine Tw.scope ?_ | refine Tw.skip ?_ | refine Tw.exit ?_ | refine Tw.ret ?_ | refine seqN ?_ | refine seqR ?_ | refine seqE ?_ | refine rndN ?_ | refine blkN ?_ | refine blkR ?_ | refine blkE1 ?_ | refine blkE0 (by kernel_rfl) ?_ | refine scpN ?_ | refine scpR ?_ | refine scpE ?_ | refine TOps.nil ?_ | exact Conj.nil | refine Conj.cons rfl ?_ | refine Conj.same ?_ | refine Conj.ask ?_ ?_ | refine Tw.regd env ?_ | refine TDr.nil ⟨by kernel_rfl, ?_⟩
          | ((with_reducible refine TOps.any ?_); first | refine TOps.frunP env (by rfl) (by rfl) ?_ ?_ | (refine TOps.known (by rfl) ?_; refine TOps.strip env (by rfl) (by rfl) ?_ ?_) | refine TOps.on (by rfl) (by rfl) ?_)
          | ((with_reducible refine TDr.any ?_); refine TDr.frunP env (by rfl) (by rfl) ?_ ?_)
          | ((with_reducible refine Tw.any ?_); first | refine Tw.condT (by rfl) ?_ | refine Tw.condF (by rfl) ?_)
          | ((first | ((with_reducible refine TOps.any ?_); (fail_if_success refine TOps.known (by rfl) ?_); refine TOps.ask (by rfl) (fun h => ?_) (fun h => ?_)) | ((with_reducible refine TDr.any ?_); (fail_if_success refine TDr.known (by first | rfl | assumption) ?_); refine TDr.ask (by rfl) (fun h hk => ?_) (fun h => ?_)) | ((with_reducible refine Tw.any ?_); refine Tw.cond (by rfl) (fun h => ?_) (fun h => ?_))) <;> (try simp only [goS] at h) <;> (try simp only [rdi, rd6i, rdLiJ, rd2i, Int.toNat_natCast, Nat.add_zero] at h))
          | ((with_reducible refine tret.any ?_); first | refine tret.ok (by rfl) ?_ | refine tret.okN (by rfl) ?_)
          | ((with_reducible refine Due.mk ?_); (first | with_reducible rfl | omega | assumption | decide | ((try simp only [goS] at *) <;> (try intro h) <;> (try intro h') <;> (try simp only [goS] at *) <;> (try simp only [rdi, rd6i, rdLiJ, rd2i, Int.toNat_natCast, Nat.add_zero] at *) <;> (try simp only [rng]) <;> (first | assumption | omega)) | (exact due_app0 (by omega)) | (exact due_app (by omega)) | (intros; simp; done) | (intros; simp; omega)))
          | with_reducible refine Due.mk ?_
          | omega)
      rw [ehF2]
      refine Tw.hE (by simp only [ehp2, prR, prC, unsC, unC, unR, ctB, ctD, ksB, ksR, List.cons_append, List.nil_append, List.append_assoc, Nat.reduceAdd, Nat.reduceMul]; rfl) ?_
      obtain ⟨o, r⟩ := q
      obtain ⟨q1, q2, q3⟩ := hq
      dsimp only at q1 q2 q3
      by_cases hx : 0 < r.length ∧ (r.getD 0 (0, 0, 0, 0, 0, 0)).1 = (k : Int) + 1
      · cases r with
        | nil => exact absurd hx.1 (by simp)
        | cons v r =>
          obtain ⟨s, kd, un, zn, x, y⟩ := v
          have hs : s = (k : Int) + 1 := hx.2
          have g0 : ((s, kd, un, zn, x, y) :: r).getD 0 ((0 : Int), (0 : Int), (0 : Int), (0 : Int), (0 : Int), (0 : Int)) = (s, kd, un, zn, x, y) := rfl
          have lc : ((s, kd, un, zn, x, y) :: r).length = r.length + 1 := rfl
          have tk : tkE ((k : Int) + 1) ((s, kd, un, zn, x, y) :: r) = ((s, kd, un, zn, x, y) :: (tkE ((k : Int) + 1) r).1, (tkE ((k : Int) + 1) r).2) := by rw [tkE]; exact if_pos hs
          rw [tk] at q1 q2
          have e3 : o ++ [(s, kd, un, zn, x, y)] = cut o 0 o.length ++ cut [(s, kd, un, zn, x, y)] 0 1 := by rw [cut_all rfl]; rfl
          have ql := (congrArg List.length e3).trans (len_cut _ _)
          have lo : o.length ≤ 1000 := by rw [List.length_cons] at q3; omega
          have q4 : (o ++ [(s, kd, un, zn, x, y)]).length + r.length ≤ 1000 := by rw [List.length_cons] at q3; rw [List.length_append, List.length_singleton]; omega
          clear pev fed okB rcB cfd evok ok okk
          repeat' (first
            | exact apd _ _ lo
            | with_reducible first | refine Tw.seq ?_ | refine Tw.reg ?_ | refine Tw.block ?_ | refine Tw.scope ?_ | refine Tw.skip ?_ | refine Tw.exit ?_ | refine Tw.ret ?_ | refine seqN ?_ | refine seqR ?_ | refine seqE ?_ | refine rndN ?_ | refine blkN ?_ | refine blkR ?_ | refine blkE1 ?_ | refine blkE0 (by kernel_rfl) ?_ | refine scpN ?_ | refine scpR ?_ | refine scpE ?_ | refine TOps.nil ?_ | exact Conj.nil | refine Conj.cons rfl ?_ | refine Conj.same ?_ | refine Conj.ask ?_ ?_ | refine Tw.regd env ?_ | refine TDr.nil ⟨by kernel_rfl, ?_⟩
            | ((with_reducible refine TOps.any ?_); first | refine TOps.frunP env (by rfl) (by rfl) ?_ ?_ | (refine TOps.known (by rfl) ?_; refine TOps.strip env (by rfl) (by rfl) ?_ ?_) | refine TOps.on (by rfl) (by rfl) ?_)
            | ((with_reducible refine TDr.any ?_); refine TDr.frunP env (by rfl) (by rfl) ?_ ?_)
            | ((with_reducible refine Tw.any ?_); first | refine Tw.condT (by rfl) ?_ | refine Tw.condF (by rfl) ?_)
            | ((first | ((with_reducible refine TOps.any ?_); (fail_if_success refine TOps.known (by rfl) ?_); refine TOps.ask (by rfl) (fun h => ?_) (fun h => ?_)) | ((with_reducible refine TDr.any ?_); (fail_if_success refine TDr.known (by first | rfl | assumption) ?_); refine TDr.ask (by rfl) (fun h hk => ?_) (fun h => ?_)) | ((with_reducible refine Tw.any ?_); refine Tw.cond (by rfl) (fun h => ?_) (fun h => ?_))) <;> (try simp only [goS] at h) <;> (try simp only [rdi, rd6i, rdLiJ, rd2i, g0, lc, Int.toNat_natCast, Nat.add_zero] at h) <;> (try (exfalso; (try simp only [goP, reduceCtorEq] at h) <;> (first | assumption | omega | contradiction | (rcases h with ⟨_, _⟩ <;> first | contradiction | omega) | (rcases h with h | h <;> first | contradiction | omega)))))
            | ((with_reducible refine tret.any ?_); first | refine tret.ok (by rfl) ?_ | refine tret.okN (by rfl) ?_)
            | ((with_reducible refine Due.mk ?_); (first | with_reducible rfl | omega | assumption | decide | ((try simp only [goS] at *) <;> (try intro h) <;> (try intro h') <;> (try simp only [goS] at *) <;> (try simp only [rdi, rd6i, rdLiJ, rd2i, g0, lc, Int.toNat_natCast, Nat.add_zero] at *) <;> (try simp only [rng]) <;> (first | assumption | omega)) | (exact due_app0 (by omega)) | (exact due_app (by omega)) | (intros; simp; done) | (intros; simp; omega)))
            | with_reducible refine Due.mk ?_
            | omega)
          refine ⟨(o ++ [(s, kd, un, zn, x, y)], r), ⟨by rw [← q1, List.append_assoc]; rfl, q2, q4⟩, by simp, ?_⟩
          refine TWk.hE (by simp only [ehp2, prR, prC, unsC, unC, unR, ctB, ctD, ksB, ksR, List.cons_append, List.nil_append, List.append_assoc, Nat.reduceAdd, Nat.reduceMul]; rfl) (TWk.fcanonG env (fun n => (List.range (2 * (thd (n - 6)) + 3)).map some ++ [some (n + 1)] ++ (List.range' (2 * (thd (n - 6)) + 4) (thd (n - 6) + 2)).map some) (by rfl) ?_)
          repeat' (first
            | exact ql
            | exact e3
            | exact rfl
            | with_reducible first | refine Tw.seq ?_ | refine Tw.reg ?_ | refine Tw.block ?_ | refine Tw.scope ?_ | refine Tw.skip ?_ | refine Tw.exit ?_ | refine Tw.ret ?_ | refine seqN ?_ | refine seqR ?_ | refine seqE ?_ | refine rndN ?_ | refine blkN ?_ | refine blkR ?_ | refine blkE1 ?_ | refine blkE0 (by kernel_rfl) ?_ | refine scpN ?_ | refine scpR ?_ | refine scpE ?_ | refine TOps.nil ?_ | exact Conj.nil | refine Conj.cons rfl ?_ | refine Conj.same ?_ | refine Conj.ask ?_ ?_ | refine Tw.regd env ?_ | refine TDr.nil ⟨by kernel_rfl, ?_⟩
            | ((with_reducible refine TOps.any ?_); first | refine TOps.frunP env (by rfl) (by rfl) ?_ ?_ | (refine TOps.known (by rfl) ?_; refine TOps.strip env (by rfl) (by rfl) ?_ ?_) | refine TOps.on (by rfl) (by rfl) ?_)
            | ((with_reducible refine TDr.any ?_); refine TDr.frunP env (by rfl) (by rfl) ?_ ?_)
            | ((with_reducible refine Tw.any ?_); first | refine Tw.condT (by rfl) ?_ | refine Tw.condF (by rfl) ?_)
            | ((first | ((with_reducible refine TOps.any ?_); (fail_if_success refine TOps.known (by rfl) ?_); refine TOps.ask (by rfl) (fun h => ?_) (fun h => ?_)) | ((with_reducible refine TDr.any ?_); (fail_if_success refine TDr.known (by first | rfl | assumption) ?_); refine TDr.ask (by rfl) (fun h hk => ?_) (fun h => ?_)) | ((with_reducible refine Tw.any ?_); refine Tw.cond (by rfl) (fun h => ?_) (fun h => ?_))) <;> (try simp only [goS] at h) <;> (try simp only [rdi, rd6i, rdLiJ, rd2i, Int.toNat_natCast, Nat.add_zero] at h))
            | ((with_reducible refine tret.any ?_); first | refine tret.ok (by rfl) ?_ | refine tret.okN (by rfl) ?_)
            | ((with_reducible refine Due.mk ?_); (first | with_reducible rfl | omega | assumption | decide | ((try simp only [goS] at *) <;> (try intro h) <;> (try intro h') <;> (try simp only [goS] at *) <;> (try simp only [rdi, rd6i, rdLiJ, rd2i, Int.toNat_natCast, Nat.add_zero] at *) <;> (try simp only [rng]) <;> (first | assumption | omega)) | (exact due_app0 (by omega)) | (exact due_app (by omega)) | (intros; simp; done) | (intros; simp; omega)))
            | with_reducible refine Due.mk ?_
            | omega)
      · have ts := tkE_stop hx
        rw [ts] at q1 q2
        rw [List.append_nil] at q1
        have eo : lpB S k (st k) = o.foldl (evP S.Z) (st k).p := by unfold lpB; rw [← q1]
        have ova : ∀ v ∈ o, evE v w S.Z = 0 ∧ v.1 = (k : Int) + 1 := fun v hv => by
          rw [q1] at hv
          rw [hw]
          rcases List.mem_append.1 hv with hv | hv
          · exact okk.o v hv
          · have := tkE_ok.1 v hv
            exact ⟨okk.r v this.2, this.1⟩
        have evI : ∀ i, i ≤ o.length → PsOk S w ((o.take i).foldl (evP S.Z) (st k).p) ∧ ((o.take i).foldl (evP S.Z) (st k).p).n = k := fun i hi => by
          rw [hw] at ova ⊢
          have h := evs_ok so (k := (k : Int) + 1) (l := o.take i) okk.p (by rw [okk.pn]) (fun v hv => ova v (List.mem_of_mem_take hv))
          exact ⟨h.1, by have := h.2; omega⟩
        repeat' (first
          | with_reducible first | refine Tw.seq ?_ | refine Tw.reg ?_ | refine Tw.block ?_ | refine Tw.scope ?_ | refine Tw.skip ?_ | refine Tw.exit ?_ | refine Tw.ret ?_ | refine seqN ?_ | refine seqR ?_ | refine seqE ?_ | refine rndN ?_ | refine blkN ?_ | refine blkR ?_ | refine blkE1 ?_ | refine blkE0 (by kernel_rfl) ?_ | refine scpN ?_ | refine scpR ?_ | refine scpE ?_ | refine TOps.nil ?_ | exact Conj.nil | refine Conj.cons rfl ?_ | refine Conj.same ?_ | refine Conj.ask ?_ ?_ | refine Tw.regd env ?_ | refine TDr.nil ⟨by kernel_rfl, ?_⟩
          | ((with_reducible refine TOps.any ?_); first | refine TOps.frunP env (by rfl) (by rfl) ?_ ?_ | (refine TOps.known (by rfl) ?_; refine TOps.strip env (by rfl) (by rfl) ?_ ?_) | refine TOps.on (by rfl) (by rfl) ?_)
          | ((with_reducible refine TDr.any ?_); refine TDr.frunP env (by rfl) (by rfl) ?_ ?_)
          | ((with_reducible refine Tw.any ?_); first | refine Tw.condT (by rfl) ?_ | refine Tw.condF (by rfl) ?_)
          | ((first | ((with_reducible refine TOps.any ?_); (fail_if_success refine TOps.known (by rfl) ?_); refine TOps.ask (by rfl) (fun h => ?_) (fun h => ?_)) | ((with_reducible refine TDr.any ?_); (fail_if_success refine TDr.known (by first | rfl | assumption) ?_); refine TDr.ask (by rfl) (fun h hk => ?_) (fun h => ?_)) | ((with_reducible refine Tw.any ?_); refine Tw.cond (by rfl) (fun h => ?_) (fun h => ?_))) <;> (try simp only [goS] at h) <;> (try simp only [rdi, rd6i, rdLiJ, rd2i, Int.toNat_natCast, Nat.add_zero] at h) <;> (try (exfalso; (try simp only [goP, reduceCtorEq] at h) <;> (first | assumption | omega | contradiction | (rcases h with ⟨_, _⟩ <;> first | contradiction | omega) | (rcases h with h | h <;> first | contradiction | omega)))))
          | ((with_reducible refine tret.any ?_); first | refine tret.ok (by rfl) ?_ | refine tret.okN (by rfl) ?_)
          | ((with_reducible refine Due.mk ?_); (first | with_reducible rfl | omega | assumption | decide | ((try simp only [goS] at *) <;> (try intro h) <;> (try intro h') <;> (try simp only [goS] at *) <;> (try simp only [rdi, rd6i, rdLiJ, rd2i, Int.toNat_natCast, Nat.add_zero] at *) <;> (try simp only [rng]) <;> (first | assumption | omega)) | (exact due_app0 (by omega)) | (exact due_app (by omega)) | (intros; simp; done) | (intros; simp; omega)))
          | with_reducible refine Due.mk ?_
          | omega)
        refine Tw.loopK [2, 3, 10, 12, 14, 15, 17, 82] (fun i : Nat => i ≤ o.length) (fun i => o.length - i) (fun i => [(84, .int .i64 i), (83, .int .i64 o.length)]) (fun i => hp3 k o ((o.take i).foldl (evP S.Z) (st k).p)) ⟨0, by omega, ?_⟩ (fun i hi => ?_)
        · refine TWk.hE (by simp only [ehp3, List.take_zero, List.foldl_nil, prR, prC, unsC, unC, unR, ctB, ctD, ksB, ksR, List.cons_append, List.nil_append, List.append_assoc, Nat.reduceAdd, Nat.reduceMul]; rfl) (TWk.fcanonR env 0 (by rfl) ?_)
          repeat' (first
            | with_reducible first | refine Tw.seq ?_ | refine Tw.reg ?_ | refine Tw.block ?_ | refine Tw.scope ?_ | refine Tw.skip ?_ | refine Tw.exit ?_ | refine Tw.ret ?_ | refine seqN ?_ | refine seqR ?_ | refine seqE ?_ | refine rndN ?_ | refine blkN ?_ | refine blkR ?_ | refine blkE1 ?_ | refine blkE0 (by kernel_rfl) ?_ | refine scpN ?_ | refine scpR ?_ | refine scpE ?_ | refine TOps.nil ?_ | exact Conj.nil | refine Conj.cons rfl ?_ | refine Conj.same ?_ | refine Conj.ask ?_ ?_ | refine Tw.regd env ?_ | refine TDr.nil ⟨by kernel_rfl, ?_⟩
            | ((with_reducible refine TOps.any ?_); first | refine TOps.frunP env (by rfl) (by rfl) ?_ ?_ | (refine TOps.known (by rfl) ?_; refine TOps.strip env (by rfl) (by rfl) ?_ ?_) | refine TOps.on (by rfl) (by rfl) ?_)
            | ((with_reducible refine TDr.any ?_); refine TDr.frunP env (by rfl) (by rfl) ?_ ?_)
            | ((with_reducible refine Tw.any ?_); first | refine Tw.condT (by rfl) ?_ | refine Tw.condF (by rfl) ?_)
            | ((first | ((with_reducible refine TOps.any ?_); (fail_if_success refine TOps.known (by rfl) ?_); refine TOps.ask (by rfl) (fun h => ?_) (fun h => ?_)) | ((with_reducible refine TDr.any ?_); (fail_if_success refine TDr.known (by first | rfl | assumption) ?_); refine TDr.ask (by rfl) (fun h hk => ?_) (fun h => ?_)) | ((with_reducible refine Tw.any ?_); refine Tw.cond (by rfl) (fun h => ?_) (fun h => ?_))) <;> (try simp only [goS] at h) <;> (try simp only [rdi, rd6i, rdLiJ, rd2i, Int.toNat_natCast, Nat.add_zero] at h))
            | ((with_reducible refine tret.any ?_); first | refine tret.ok (by rfl) ?_ | refine tret.okN (by rfl) ?_)
            | ((with_reducible refine Due.mk ?_); (first | with_reducible rfl | omega | assumption | decide | ((try simp only [goS] at *) <;> (try intro h) <;> (try intro h') <;> (try simp only [goS] at *) <;> (try simp only [rdi, rd6i, rdLiJ, rd2i, Int.toNat_natCast, Nat.add_zero] at *) <;> (try simp only [rng]) <;> (first | assumption | omega)) | (exact due_app0 (by omega)) | (exact due_app (by omega)) | (intros; simp; done) | (intros; simp; omega)))
            | with_reducible refine Due.mk ?_
            | omega)
        obtain ⟨p, ep⟩ : ∃ p, p = (o.take i).foldl (evP S.Z) (st k).p := ⟨_, rfl⟩
        have pi := evI i hi
        rw [← ep] at pi ⊢
        refine Tw.hE (by simp only [ehp3, prR, prC, unsC, unC, unR, ctB, ctD, ksB, ksR, List.cons_append, List.nil_append, List.append_assoc, Nat.reduceAdd, Nat.reduceMul]; rfl) ?_
        rcases Nat.lt_or_ge i o.length with hi | hi
        · have pn : (o.take (i + 1)).foldl (evP S.Z) (st k).p = evP S.Z p (o.getD i dEv) := by rw [ep]; exact take_fold' _ _ _ _ hi
          have ov := ova (o.getD i dEv) (by rw [List.getD_eq_getElem?_getD, List.getElem?_eq_getElem hi]; exact List.getElem_mem _)
          rw [hw] at pi ov
          have pv := pev p pi.1 (o.getD i dEv).1 (o.getD i dEv).2.1 (o.getD i dEv).2.2.1 (o.getD i dEv).2.2.2.1 (o.getD i dEv).2.2.2.2.1 (o.getD i dEv).2.2.2.2.2
          have hb : evS ((o.getD i dEv).1, (o.getD i dEv).2.1, (o.getD i dEv).2.2.1, (o.getD i dEv).2.2.2.1, (o.getD i dEv).2.2.2.2.1, (o.getD i dEv).2.2.2.2.2) p.n w S.Z = 0 := by
            unfold evS
            rw [hw]
            rw [if_neg (fun h => h ov.1), if_neg (fun h => h (by have := pi.2; rw [show (o.getD i dEv).1 = (k : Int) + 1 from ov.2]; omega))]
          rw [← hw, hb, if_pos rfl] at pv
          have pn' : (o.take (i + 1)).foldl (evP S.Z) (st k).p = evP S.Z p ((o.getD i dEv).1, (o.getD i dEv).2.1, (o.getD i dEv).2.2.1, (o.getD i dEv).2.2.2.1, (o.getD i dEv).2.2.2.2.1, (o.getD i dEv).2.2.2.2.2) := pn
          rw [← pn'] at pv
          obtain ⟨p2, ep2⟩ : ∃ p2, p2 = (o.take (i + 1)).foldl (evP S.Z) (st k).p := ⟨_, rfl⟩
          rw [← ep2] at pv
          simp only [hw, prR, prC, unsC, unC, unR, List.cons_append, List.nil_append, Nat.reduceAdd, Nat.reduceMul] at pv
          clear pev fed okB rcB evok ok okk evI ova hb pn pn' pi ov
          repeat' (first
            | ((with_reducible refine TOps.any ?_); refine callI env _ (pv) (by rfl) (by rfl) (by rfl) (by simp only [List.length_cons, List.length_nil, Nat.reduceAdd]; rfl) (by rfl) (by rfl) (by rfl) (by rfl) (by rfl) ?_)
            | with_reducible first | refine Tw.seq ?_ | refine Tw.reg ?_ | refine Tw.block ?_ | refine Tw.scope ?_ | refine Tw.skip ?_ | refine Tw.exit ?_ | refine Tw.ret ?_ | refine seqN ?_ | refine seqR ?_ | refine seqE ?_ | refine rndN ?_ | refine blkN ?_ | refine blkR ?_ | refine blkE1 ?_ | refine blkE0 (by kernel_rfl) ?_ | refine scpN ?_ | refine scpR ?_ | refine scpE ?_ | refine TOps.nil ?_ | exact Conj.nil | refine Conj.cons rfl ?_ | refine Conj.same ?_ | refine Conj.ask ?_ ?_ | refine Tw.regd env ?_ | refine TDr.nil ⟨by kernel_rfl, ?_⟩
            | ((with_reducible refine TOps.any ?_); first | refine TOps.frunP env (by rfl) (by rfl) ?_ ?_ | (refine TOps.known (by rfl) ?_; refine TOps.strip env (by rfl) (by rfl) ?_ ?_) | refine TOps.on (by rfl) (by rfl) ?_)
            | ((with_reducible refine TDr.any ?_); refine TDr.frunP env (by rfl) (by rfl) ?_ ?_)
            | ((with_reducible refine Tw.any ?_); first | refine Tw.condT (by rfl) ?_ | refine Tw.condF (by rfl) ?_)
            | ((first | ((with_reducible refine TOps.any ?_); (fail_if_success refine TOps.known (by rfl) ?_); refine TOps.ask (by rfl) (fun h => ?_) (fun h => ?_)) | ((with_reducible refine TDr.any ?_); (fail_if_success refine TDr.known (by first | rfl | assumption) ?_); refine TDr.ask (by rfl) (fun h hk => ?_) (fun h => ?_)) | ((with_reducible refine Tw.any ?_); refine Tw.cond (by rfl) (fun h => ?_) (fun h => ?_))) <;> (try simp only [goS] at h) <;> (try simp only [rdi, rd6i, rdLiJ, rd2i, Int.toNat_natCast, Nat.add_zero] at h) <;> (try (exfalso; (try simp only [goP, reduceCtorEq] at h) <;> (first | assumption | omega | contradiction | (rcases h with ⟨_, _⟩ <;> first | contradiction | omega) | (rcases h with h | h <;> first | contradiction | omega)))))
            | ((with_reducible refine tret.any ?_); first | refine tret.ok (by rfl) ?_ | refine tret.okN (by rfl) ?_)
            | ((with_reducible refine Due.mk ?_); (first | with_reducible rfl | omega | assumption | decide | ((try simp only [goS] at *) <;> (try intro h) <;> (try intro h') <;> (try simp only [goS] at *) <;> (try simp only [rdi, rd6i, rdLiJ, rd2i, Int.toNat_natCast, Nat.add_zero] at *) <;> (try simp only [rng]) <;> (first | assumption | omega)) | (exact due_app0 (by omega)) | (exact due_app (by omega)) | (intros; simp; done) | (intros; simp; omega)))
            | with_reducible refine Due.mk ?_
            | omega)
          refine ⟨i + 1, by omega, by omega, ?_⟩
          rw [← ep2]
          refine TWk.hE (by simp only [ehp3, prR, prC, unsC, unC, unR, ctB, ctD, ksB, ksR, List.cons_append, List.nil_append, List.append_assoc, Nat.reduceAdd, Nat.reduceMul]; rfl) (TWk.fcanonR env 0 (by rfl) ?_)
          repeat' (first
            | with_reducible first | refine Tw.seq ?_ | refine Tw.reg ?_ | refine Tw.block ?_ | refine Tw.scope ?_ | refine Tw.skip ?_ | refine Tw.exit ?_ | refine Tw.ret ?_ | refine seqN ?_ | refine seqR ?_ | refine seqE ?_ | refine rndN ?_ | refine blkN ?_ | refine blkR ?_ | refine blkE1 ?_ | refine blkE0 (by kernel_rfl) ?_ | refine scpN ?_ | refine scpR ?_ | refine scpE ?_ | refine TOps.nil ?_ | exact Conj.nil | refine Conj.cons rfl ?_ | refine Conj.same ?_ | refine Conj.ask ?_ ?_ | refine Tw.regd env ?_ | refine TDr.nil ⟨by kernel_rfl, ?_⟩
            | ((with_reducible refine TOps.any ?_); first | refine TOps.frunP env (by rfl) (by rfl) ?_ ?_ | (refine TOps.known (by rfl) ?_; refine TOps.strip env (by rfl) (by rfl) ?_ ?_) | refine TOps.on (by rfl) (by rfl) ?_)
            | ((with_reducible refine TDr.any ?_); refine TDr.frunP env (by rfl) (by rfl) ?_ ?_)
            | ((with_reducible refine Tw.any ?_); first | refine Tw.condT (by rfl) ?_ | refine Tw.condF (by rfl) ?_)
            | ((first | ((with_reducible refine TOps.any ?_); (fail_if_success refine TOps.known (by rfl) ?_); refine TOps.ask (by rfl) (fun h => ?_) (fun h => ?_)) | ((with_reducible refine TDr.any ?_); (fail_if_success refine TDr.known (by first | rfl | assumption) ?_); refine TDr.ask (by rfl) (fun h hk => ?_) (fun h => ?_)) | ((with_reducible refine Tw.any ?_); refine Tw.cond (by rfl) (fun h => ?_) (fun h => ?_))) <;> (try simp only [goS] at h) <;> (try simp only [rdi, rd6i, rdLiJ, rd2i, Int.toNat_natCast, Nat.add_zero] at h))
            | ((with_reducible refine tret.any ?_); first | refine tret.ok (by rfl) ?_ | refine tret.okN (by rfl) ?_)
            | ((with_reducible refine Due.mk ?_); (first | with_reducible rfl | omega | assumption | decide | ((try simp only [goS] at *) <;> (try intro h) <;> (try intro h') <;> (try simp only [goS] at *) <;> (try simp only [rdi, rd6i, rdLiJ, rd2i, Int.toNat_natCast, Nat.add_zero] at *) <;> (try simp only [rng]) <;> (first | assumption | omega)) | (exact due_app0 (by omega)) | (exact due_app (by omega)) | (intros; simp; done) | (intros; simp; omega)))
            | with_reducible refine Due.mk ?_
            | omega)
        · obtain rfl : o.length = i := by omega
          rw [List.take_length, ← eo] at ep
          obtain ⟨b1, b2⟩ := okB k okk
          rw [← ep] at b1 b2
          have bn : p.n = (st k).c.n := by rw [b2, okk.cn]
          have fd := fed p b1 (by omega)
          have cf := cfd (st k).c (fedS S w p) (fedD S w p) (shK S p.us w) (flL S p.us w 0) okk.c (by have := okk.cn; dsimp only [Due]; omega) (by rw [hw]; exact rcB p b1)
          have cB := ctB_sh (b := 2 * w + 4) (S := S) (u := w) (c := (st k).c)
          have cY := ctB_sh (b := 2 * w + 4) (S := S) (u := w) (c := lpC S w (st k).c p)
          have e3 : LL k ++ [recO S w p] = cut (LL k) 0 k ++ cut [(p.n + 1, fedS S w p, shK S p.us w, flL S p.us w 0, fedD S w p)] 0 1 := by rw [cut_all (rl k).symm]; rfl
          have sk := stS k
          have lk := LS k
          rw [← ep] at lk
          unfold lpS at sk
          rw [← ep, ← q2] at sk
          have rlk := rl k
          rw [bn] at e3
          simp only [hw, prR, prC, unsC, unC, unR, List.cons_append, List.nil_append, Nat.reduceAdd, Nat.reduceMul] at fd cB cY e3
          simp only [hw] at cf
          simp only [ctB, ctD, ksB, ksR, lpC, List.cons_append, List.nil_append, Nat.reduceAdd, Nat.reduceMul] at cB cY
          rw [bn] at fd ⊢
          clear pev fed okB rcB evok ok okk evI ova pi cfd stS LS ep eo bn b1 b2 q1 q2
          repeat' (first
            | ((with_reducible refine TOps.any ?_); refine callI env _ (fd) (by rfl) (by rfl) (by rfl) (by simp only [List.length_cons, List.length_nil, Nat.reduceAdd]; rfl) (by rfl) (by rfl) (by rfl) (by rfl) (by rfl) ?_)
            | ((with_reducible refine TOps.any ?_); refine callM env _ _ (cf) (cB) (cY) (by first | (simp only [List.length_cons, List.length_nil, Nat.reduceAdd]; rfl) | rfl) (by rfl) (by rfl) (by rfl) (by rfl) (by rfl) (by rfl) (by rfl) (by rfl) (by rfl) (by rfl) (by rfl) ?_)
            | with_reducible first | refine Tw.seq ?_ | refine Tw.reg ?_ | refine Tw.block ?_ | refine Tw.scope ?_ | refine Tw.skip ?_ | refine Tw.exit ?_ | refine Tw.ret ?_ | refine seqN ?_ | refine seqR ?_ | refine seqE ?_ | refine rndN ?_ | refine blkN ?_ | refine blkR ?_ | refine blkE1 ?_ | refine blkE0 (by kernel_rfl) ?_ | refine scpN ?_ | refine scpR ?_ | refine scpE ?_ | refine TOps.nil ?_ | exact Conj.nil | refine Conj.cons rfl ?_ | refine Conj.same ?_ | refine Conj.ask ?_ ?_ | refine Tw.regd env ?_ | refine TDr.nil ⟨by kernel_rfl, ?_⟩
            | ((with_reducible refine TOps.any ?_); first | refine TOps.frunP env (by rfl) (by rfl) ?_ ?_ | (refine TOps.known (by rfl) ?_; refine TOps.strip env (by rfl) (by rfl) ?_ ?_) | refine TOps.on (by rfl) (by rfl) ?_)
            | ((with_reducible refine TDr.any ?_); refine TDr.frunP env (by rfl) (by rfl) ?_ ?_)
            | ((with_reducible refine Tw.any ?_); first | refine Tw.condT (by rfl) ?_ | refine Tw.condF (by rfl) ?_)
            | ((first | ((with_reducible refine TOps.any ?_); (fail_if_success refine TOps.known (by rfl) ?_); refine TOps.ask (by rfl) (fun h => ?_) (fun h => ?_)) | ((with_reducible refine TDr.any ?_); (fail_if_success refine TDr.known (by first | rfl | assumption) ?_); refine TDr.ask (by rfl) (fun h hk => ?_) (fun h => ?_)) | ((with_reducible refine Tw.any ?_); refine Tw.cond (by rfl) (fun h => ?_) (fun h => ?_))) <;> (try simp only [goS] at h) <;> (try simp only [rdi, rd6i, rdLiJ, rd2i, rlk, Int.toNat_natCast, Nat.add_zero] at h) <;> (try (exfalso; (try simp only [goP, reduceCtorEq] at h) <;> (first | assumption | omega | contradiction | (rcases h with ⟨_, _⟩ <;> first | contradiction | omega) | (rcases h with h | h <;> first | contradiction | omega)))))
            | ((with_reducible refine tret.any ?_); first | refine tret.ok (by rfl) ?_ | refine tret.okN (by rfl) ?_)
            | ((with_reducible refine Due.mk ?_); (first | with_reducible rfl | omega | assumption | decide | ((try simp only [goS] at *) <;> (try intro h) <;> (try intro h') <;> (try simp only [goS] at *) <;> (try simp only [rdi, rd6i, rdLiJ, rd2i, rlk, Int.toNat_natCast, Nat.add_zero] at *) <;> (try simp only [rng]) <;> (first | assumption | omega)) | (exact due_app0 (by omega)) | (exact due_app (by omega)) | (intros; simp; done) | (intros; simp; omega)))
            | with_reducible refine Due.mk ?_
            | omega)
          refine ⟨k + 1, by omega, by omega, ?_⟩
          dsimp only
          rw [sk]
          refine TWk.hE (by simp only [ehp, sk, lk, lpC, prR, prC, unsC, unC, unR, ctB, ctD, ksB, ksR, List.cons_append, List.nil_append, List.append_assoc, Nat.reduceAdd, Nat.reduceMul]; rfl) (TWk.fcanonG env (fun n => (List.range (2 * thd (n - 6) + 2)).map some ++ [some (n + 2), some (n + 3)] ++ (List.range' (2 * thd (n - 6) + 4) (thd (n - 6) + 2)).map some) (by rfl) ?_)
          repeat' (first
            | exact e3
            | exact rfl
            | with_reducible first | refine Tw.seq ?_ | refine Tw.reg ?_ | refine Tw.block ?_ | refine Tw.scope ?_ | refine Tw.skip ?_ | refine Tw.exit ?_ | refine Tw.ret ?_ | refine seqN ?_ | refine seqR ?_ | refine seqE ?_ | refine rndN ?_ | refine blkN ?_ | refine blkR ?_ | refine blkE1 ?_ | refine blkE0 (by kernel_rfl) ?_ | refine scpN ?_ | refine scpR ?_ | refine scpE ?_ | refine TOps.nil ?_ | exact Conj.nil | refine Conj.cons rfl ?_ | refine Conj.same ?_ | refine Conj.ask ?_ ?_ | refine Tw.regd env ?_ | refine TDr.nil ⟨by kernel_rfl, ?_⟩
            | ((with_reducible refine TOps.any ?_); first | refine TOps.frunP env (by rfl) (by rfl) ?_ ?_ | (refine TOps.known (by rfl) ?_; refine TOps.strip env (by rfl) (by rfl) ?_ ?_) | refine TOps.on (by rfl) (by rfl) ?_)
            | ((with_reducible refine TDr.any ?_); refine TDr.frunP env (by rfl) (by rfl) ?_ ?_)
            | ((with_reducible refine Tw.any ?_); first | refine Tw.condT (by rfl) ?_ | refine Tw.condF (by rfl) ?_)
            | ((first | ((with_reducible refine TOps.any ?_); (fail_if_success refine TOps.known (by rfl) ?_); refine TOps.ask (by rfl) (fun h => ?_) (fun h => ?_)) | ((with_reducible refine TDr.any ?_); (fail_if_success refine TDr.known (by first | rfl | assumption) ?_); refine TDr.ask (by rfl) (fun h hk => ?_) (fun h => ?_)) | ((with_reducible refine Tw.any ?_); refine Tw.cond (by rfl) (fun h => ?_) (fun h => ?_))) <;> (try simp only [goS] at h) <;> (try simp only [rdi, rd6i, rdLiJ, rd2i, Int.toNat_natCast, Nat.add_zero] at h))
            | ((with_reducible refine tret.any ?_); first | refine tret.ok (by rfl) ?_ | refine tret.okN (by rfl) ?_)
            | ((with_reducible refine Due.mk ?_); (first | with_reducible rfl | omega | assumption | decide | ((try simp only [goS] at *) <;> (try intro h) <;> (try intro h') <;> (try simp only [goS] at *) <;> (try simp only [rdi, rd6i, rdLiJ, rd2i, Int.toNat_natCast, Nat.add_zero] at *) <;> (try simp only [rng]) <;> (first | assumption | omega)) | (exact due_app0 (by omega)) | (exact due_app (by omega)) | (intros; simp; done) | (intros; simp; omega)))
            | with_reducible refine Due.mk ?_
            | omega)
    · obtain rfl : n = k := by omega
      clear ok
      refine Tw.frzG env (fun n => 2 * thd (n - 6) + 2) (by rfl) (by rfl) (by rfl) ?_ ?_ ?_
      · repeat' (first
          | with_reducible first | refine Tw.seq ?_ | refine Tw.reg ?_ | refine Tw.block ?_ | refine Tw.scope ?_ | refine Tw.skip ?_ | refine Tw.exit ?_ | refine Tw.ret ?_ | refine seqN ?_ | refine seqR ?_ | refine seqE ?_ | refine rndN ?_ | refine blkN ?_ | refine blkR ?_ | refine blkE1 ?_ | refine blkE0 (by kernel_rfl) ?_ | refine scpN ?_ | refine scpR ?_ | refine scpE ?_ | refine TOps.nil ?_ | exact Conj.nil | refine Conj.cons rfl ?_ | refine Conj.same ?_ | refine Conj.ask ?_ ?_ | refine Tw.regd env ?_ | refine TDr.nil ⟨by kernel_rfl, ?_⟩
          | ((with_reducible refine TOps.any ?_); first | refine TOps.frunP env (by rfl) (by rfl) ?_ ?_ | (refine TOps.known (by rfl) ?_; refine TOps.strip env (by rfl) (by rfl) ?_ ?_) | refine TOps.on (by rfl) (by rfl) ?_)
          | ((with_reducible refine TDr.any ?_); refine TDr.frunP env (by rfl) (by rfl) ?_ ?_)
          | ((with_reducible refine Tw.any ?_); first | refine Tw.condT (by rfl) ?_ | refine Tw.condF (by rfl) ?_)
          | ((first | ((with_reducible refine TOps.any ?_); (fail_if_success refine TOps.known (by rfl) ?_); refine TOps.ask (by rfl) (fun h => ?_) (fun h => ?_)) | ((with_reducible refine TDr.any ?_); (fail_if_success refine TDr.known (by first | rfl | assumption) ?_); refine TDr.ask (by rfl) (fun h hk => ?_) (fun h => ?_)) | ((with_reducible refine Tw.any ?_); refine Tw.cond (by rfl) (fun h => ?_) (fun h => ?_))) <;> (try simp only [goS] at h) <;> (try simp only [rdi, rd6i, rdLiJ, rd2i, rl, Int.toNat_natCast, Nat.add_zero] at h))
          | ((with_reducible refine tret.any ?_); first | refine tret.ok (by rfl) ?_ | refine tret.okN (by rfl) ?_)
          | ((with_reducible refine Due.mk ?_); (first | with_reducible rfl | omega | assumption | decide | ((try simp only [goS] at *) <;> (try intro h) <;> (try intro h') <;> (try simp only [goS] at *) <;> (try simp only [rdi, rd6i, rdLiJ, rd2i, rl, Int.toNat_natCast, Nat.add_zero] at *) <;> (try simp only [rng]) <;> (first | assumption | omega)) | (exact due_app0 (by omega)) | (exact due_app (by omega)) | (intros; simp; done) | (intros; simp; omega)))
          | with_reducible refine Due.mk ?_
          | omega)
      · repeat' (first
          | with_reducible first | refine Tw.seq ?_ | refine Tw.reg ?_ | refine Tw.block ?_ | refine Tw.scope ?_ | refine Tw.skip ?_ | refine Tw.exit ?_ | refine Tw.ret ?_ | refine seqN ?_ | refine seqR ?_ | refine seqE ?_ | refine rndN ?_ | refine blkN ?_ | refine blkR ?_ | refine blkE1 ?_ | refine blkE0 (by kernel_rfl) ?_ | refine scpN ?_ | refine scpR ?_ | refine scpE ?_ | refine TOps.nil ?_ | exact Conj.nil | refine Conj.cons rfl ?_ | refine Conj.same ?_ | refine Conj.ask ?_ ?_ | refine Tw.regd env ?_ | refine TDr.nil ⟨by kernel_rfl, ?_⟩
          | ((with_reducible refine TOps.any ?_); first | refine TOps.frunP env (by rfl) (by rfl) ?_ ?_ | (refine TOps.known (by rfl) ?_; refine TOps.strip env (by rfl) (by rfl) ?_ ?_) | refine TOps.on (by rfl) (by rfl) ?_)
          | ((with_reducible refine TDr.any ?_); refine TDr.frunP env (by rfl) (by rfl) ?_ ?_)
          | ((with_reducible refine Tw.any ?_); first | refine Tw.condT (by rfl) ?_ | refine Tw.condF (by rfl) ?_)
          | ((first | ((with_reducible refine TOps.any ?_); (fail_if_success refine TOps.known (by rfl) ?_); refine TOps.ask (by rfl) (fun h => ?_) (fun h => ?_)) | ((with_reducible refine TDr.any ?_); (fail_if_success refine TDr.known (by first | rfl | assumption) ?_); refine TDr.ask (by rfl) (fun h hk => ?_) (fun h => ?_)) | ((with_reducible refine Tw.any ?_); refine Tw.cond (by rfl) (fun h => ?_) (fun h => ?_))) <;> (try simp only [goS] at h) <;> (try simp only [rdi, rd6i, rdLiJ, rd2i, rl, Int.toNat_natCast, Nat.add_zero] at h))
          | ((with_reducible refine tret.any ?_); first | refine tret.ok (by rfl) ?_ | refine tret.okN (by rfl) ?_)
          | ((with_reducible refine Due.mk ?_); (first | with_reducible rfl | omega | assumption | decide | ((try simp only [goS] at *) <;> (try intro h) <;> (try intro h') <;> (try simp only [goS] at *) <;> (try simp only [rdi, rd6i, rdLiJ, rd2i, rl, Int.toNat_natCast, Nat.add_zero] at *) <;> (try simp only [rng]) <;> (first | assumption | omega)) | (exact due_app0 (by omega)) | (exact due_app (by omega)) | (intros; simp; done) | (intros; simp; omega)))
          | with_reducible refine Due.mk ?_
          | omega)
      rw [cut_all (rl n).symm]
      repeat' (first
        | with_reducible first | refine Tw.seq ?_ | refine Tw.reg ?_ | refine Tw.block ?_ | refine Tw.scope ?_ | refine Tw.skip ?_ | refine Tw.exit ?_ | refine Tw.ret ?_ | refine seqN ?_ | refine seqR ?_ | refine seqE ?_ | refine rndN ?_ | refine blkN ?_ | refine blkR ?_ | refine blkE1 ?_ | refine blkE0 (by kernel_rfl) ?_ | refine scpN ?_ | refine scpR ?_ | refine scpE ?_ | refine TOps.nil ?_ | exact Conj.nil | refine Conj.cons rfl ?_ | refine Conj.same ?_ | refine Conj.ask ?_ ?_ | refine Tw.regd env ?_ | refine TDr.nil ⟨by kernel_rfl, ?_⟩
        | ((with_reducible refine TOps.any ?_); first | refine TOps.frunP env (by rfl) (by rfl) ?_ ?_ | (refine TOps.known (by rfl) ?_; refine TOps.strip env (by rfl) (by rfl) ?_ ?_) | refine TOps.on (by rfl) (by rfl) ?_)
        | ((with_reducible refine TDr.any ?_); refine TDr.frunP env (by rfl) (by rfl) ?_ ?_)
        | ((with_reducible refine Tw.any ?_); first | refine Tw.condT (by rfl) ?_ | refine Tw.condF (by rfl) ?_)
        | ((first | ((with_reducible refine TOps.any ?_); (fail_if_success refine TOps.known (by rfl) ?_); refine TOps.ask (by rfl) (fun h => ?_) (fun h => ?_)) | ((with_reducible refine TDr.any ?_); (fail_if_success refine TDr.known (by first | rfl | assumption) ?_); refine TDr.ask (by rfl) (fun h hk => ?_) (fun h => ?_)) | ((with_reducible refine Tw.any ?_); refine Tw.cond (by rfl) (fun h => ?_) (fun h => ?_))) <;> (try simp only [goS] at h) <;> (try simp only [rdi, rd6i, rdLiJ, rd2i, Int.toNat_natCast, Nat.add_zero] at h) <;> (try (exfalso; (try simp only [goP, reduceCtorEq] at h) <;> (first | assumption | omega | contradiction | (rcases h with ⟨_, _⟩ <;> first | contradiction | omega) | (rcases h with h | h <;> first | contradiction | omega)))))
        | ((with_reducible refine tret.any ?_); first | refine tret.ok (by rfl) ?_ | refine tret.okN (by rfl) ?_)
        | ((with_reducible refine Due.mk ?_); (first | with_reducible rfl | omega | assumption | decide | ((try simp only [goS] at *) <;> (try intro h) <;> (try intro h') <;> (try simp only [goS] at *) <;> (try simp only [rdi, rd6i, rdLiJ, rd2i, Int.toNat_natCast, Nat.add_zero] at *) <;> (try simp only [rng]) <;> (first | assumption | omega)) | (exact due_app0 (by omega)) | (exact due_app (by omega)) | (intros; simp; done) | (intros; simp; omega)))
        | with_reducible refine Due.mk ?_
        | omega)
      all_goals exact ⟨rfl, rfl, rfl⟩) : loop_c_P n8 := h8
theorem loop_c_1 : loop_c_P 1 := loop_c_A
theorem loop_c_2 : loop_c_P 2 := loop_c_A
theorem loop_c_3 : loop_c_P 3 := loop_c_A
theorem loop_c_4 : loop_c_P 4 := loop_c_A
theorem loop_c_5 : loop_c_P 5 := loop_c_A
end Go.Proofs.Ytbaepacihkgalaa
