/- Inverse: Quick. -/
import Derived.Test.YtkapjajlkpepmaaInv10
import Derived.Test.YtkapjajlkpepmaaGo
namespace Go.Proofs.Ytkapjajlkpepmaa
open Go Go.Lite
set_option linter.unusedVariables false
set_option linter.unusedSimpArgs false
set_option maxRecDepth 100000
set_option maxHeartbeats 4000000
-- @simp rdi rd2i rdL2iJ

/-- The box of a question. -/
def boxOf (p : Prf) (q : Ask) (n s : Nat) : SBox := ⟨p, q, n, s, q.st.toNat, fun k => ((q.lo.getD k 0).toNat + q.st.toNat - 1) / q.st.toNat, fun k => (q.hi.getD k 0).toNat / q.st.toNat⟩
theorem boxOf_ok {p : Prf} {q : Ask} {n s : Nat} (h : PrfOk p n s) (a : AskOk n q) : SOk (boxOf p q n s) where
  ok := h
  lab := a.lab
  st := by have := a.st; unfold stepOk at this; show q.st = (q.st.toNat : Nat); omega
  tot := a.tot
  pos := by have := a.st; unfold stepOk at this; show 0 < q.st.toNat; omega
  top := fun k hk => by
    have hk : k < n := hk
    have h1 := (tonesE_ok.1 a.hi).2 k (by have := (tonesE_ok.1 a.hi).1; omega)
    show (q.hi.getD k 0).toNat / q.st.toNat * q.st.toNat ≤ 255
    have := Nat.div_mul_le_self (q.hi.getD k 0).toNat q.st.toNat
    omega
def isBest (x : SBox) (ys : List Nat) : Prop := cand x x.F x.T ys ∧ ∀ zs, cand x x.F x.T zs → sdst x ys < sdst x zs ∨ (sdst x ys = sdst x zs ∧ ¬ prec x.n zs ys)
/-- What the box is made of. -/
structure BoxF (q : Ask) (n : Nat) (F T : Nat → Nat) : Prop where
  n4 : 1 ≤ n ∧ n ≤ 4
  st : 5 ≤ q.st ∧ q.st ≤ 255
  ll : q.lo.length = n
  lh : q.hi.length = n
  lb : ∀ k, k < n → 0 ≤ q.lo.getD k 0 ∧ q.lo.getD k 0 ≤ 255
  hb : ∀ k, k < n → 0 ≤ q.hi.getD k 0 ∧ q.hi.getD k 0 ≤ 255
  f : ∀ k, k < n → quo (q.lo.getD k 0 + q.st - 1) q.st = ((F k : Nat) : Int) ∧ F k ≤ 255
  t : ∀ k, k < n → quo (q.hi.getD k 0) q.st = ((T k : Nat) : Int) ∧ T k ≤ 255
theorem iq_none (p : Prf) (q : Ask) (n : Nat) (F T : Nat → Nat) (b : BoxF q n F T) (il : p.inks.length = n) (k0 : Nat) (hk : k0 < n) (hk0 : T k0 < F k0) (hk1 : ∀ j, j < k0 → F j ≤ T j) :
    TC R Try.prog inverse_Quick_f [.pel (encP p), .pel (encA q)] [] (fun v X => v = .tup [.nils, .int .i64 0, .int .i64 8] ∧ X = []) := by
  have n4 := b.n4
  have stb := b.st
  have ll := b.ll
  have lh := b.lh
  have dm : 0 ≤ (p.inks.length : Int) ∧ (p.inks.length : Int) ≤ (p.inks.length : Int) ∧ (p.inks.length : Int) ≤ 281474976710656 ∧ ((8 : Nat) : Int) * (p.inks.length : Int) ≤ 281474976710656 := by omega
  refine tc0 env inverse_Quick_s (by rfl) ?_
  dsimp only [inverse_Quick_c, encP, encA]
  repeat' (first
    | exact dm
    | refine GZp_i_2i_L2iJ ?_ ?_ ?_ ?_ ?_ ?_ ?_ ?_
    | with_reducible first | exact BzZq.mk | refine Tw.ret ?_ | refine ImZq.i fun h => ?_ | refine IkZq.i fun hk => ?_)
  rw [il, Int.toNat_natCast]
  refine Tw.loopK [1, 8, 27] (fun i : Nat => i ≤ n ∧ i ≤ k0) (fun i => n - i) (fun i => [(28, .int .i64 i)])
    (fun i => [some (.arr Ei (List.replicate n (0 : Int))), some (.arr Ei (List.replicate n (0 : Int))), some (.arr Ei (ptab n i fun k => ((F k : Nat) : Int))), some (.arr Ei (ptab n i fun k => ((T k : Nat) : Int))), some (srow p q n .nils 0)]) ⟨0, ⟨by omega, by omega⟩, TWk.fcanon env [some 0, some 1, some 2, some 3, some 4] (by rfl) ?_⟩ (fun i hi => ?_)
  · repeat' (first
      | exact ptab_zero
      | with_reducible first | exact Conj.nil | refine Conj.cons rfl ?_ | refine Conj.same ?_ | refine Conj.ask ?_ ?_
      | ((with_reducible refine Due.mk ?_); (first | with_reducible rfl | omega | assumption | decide | ((try simp only [goS] at *) <;> (try intro h) <;> (try intro h') <;> (try simp only [goS] at *) <;> (try simp only [rdi, rd2i, rdL2iJ, Int.toNat_natCast, Nat.add_zero] at *) <;> (try simp only [rng]) <;> (first | assumption | omega)) | (exact due_app0 (by omega)) | (exact due_app (by omega)) | (intros; simp; done) | (intros; simp; omega)))
      | with_reducible refine Due.mk ?_
      | omega)
  obtain ⟨hi, hj⟩ := hi
  have l1 : (ptab n i fun k => ((F k : Nat) : Int)).length = n := ptab_len
  have l2 : (ptab n i fun k => ((T k : Nat) : Int)).length = n := ptab_len
  have hi2 : i < n := by omega
  by_cases hh : i = k0
  · subst hh
    have b1 := b.lb i hi2
    have b2 := b.hb i hi2
    have b3 := b.f i hi2
    have b4 := b.t i hi2
    have q1 : rng .i64 (quo (q.lo.getD i 0 + q.st - 1) q.st) := by rw [b3.1]; simp only [rng]; omega
    have q2 : rng .i64 (quo (q.hi.getD i 0) q.st) := by rw [b4.1]; simp only [rng]; omega
    have s1 : (ptab n i fun k => ((F k : Nat) : Int)).set i (quo (q.lo.getD i 0 + q.st - 1) q.st) = ptab n (i + 1) fun k => ((F k : Nat) : Int) := by rw [b3.1]; exact ptab_set (f := fun k => ((F k : Nat) : Int))
    have s2 : (ptab n i fun k => ((T k : Nat) : Int)).set i (quo (q.hi.getD i 0) q.st) = ptab n (i + 1) fun k => ((T k : Nat) : Int) := by rw [b4.1]; exact ptab_set (f := fun k => ((T k : Nat) : Int))
    have l3 : (ptab n (i + 1) fun k => ((F k : Nat) : Int)).length = n := ptab_len
    have l4 : (ptab n (i + 1) fun k => ((T k : Nat) : Int)).length = n := ptab_len
    have e3 : (ptab n (i + 1) fun k => ((F k : Nat) : Int)).getD i 0 = ((F i : Nat) : Int) := ptab_get (Nat.lt_succ_self i) hi2
    have e4 : (ptab n (i + 1) fun k => ((T k : Nat) : Int)).getD i 0 = ((T i : Nat) : Int) := ptab_get (Nat.lt_succ_self i) hi2
    have g3 : ((ptab n i fun k => ((F k : Nat) : Int)).set i (quo (q.lo.getD i 0 + q.st - 1) q.st)).getD i 0 = ((F i : Nat) : Int) := by rw [s1, e3]
    have g4 : ((ptab n i fun k => ((T k : Nat) : Int)).set i (quo (q.hi.getD i 0) q.st)).getD i 0 = ((T i : Nat) : Int) := by rw [s2, e4]
    repeat' (first
      | exact q1
      | exact q2
      | refine GZy_i_2i_L2iJ (And.intro ll (And.intro lh (And.intro l1 (And.intro l2 (And.intro g3 g4))))) ?_ ?_ ?_ ?_ ?_ ?_ ?_ ?_
      | with_reducible first | exact BzZq.mk | refine Tw.ret ?_ | refine ImZq.i fun h => ?_ | refine IkZq.i fun hk => ?_)
    exact ⟨rfl, rfl, rfl⟩
  · have hh2 := hk1 i (by omega)
    have b1 := b.lb i hi2
    have b2 := b.hb i hi2
    have b3 := b.f i hi2
    have b4 := b.t i hi2
    have q1 : rng .i64 (quo (q.lo.getD i 0 + q.st - 1) q.st) := by rw [b3.1]; simp only [rng]; omega
    have q2 : rng .i64 (quo (q.hi.getD i 0) q.st) := by rw [b4.1]; simp only [rng]; omega
    have s1 : (ptab n i fun k => ((F k : Nat) : Int)).set i (quo (q.lo.getD i 0 + q.st - 1) q.st) = ptab n (i + 1) fun k => ((F k : Nat) : Int) := by rw [b3.1]; exact ptab_set (f := fun k => ((F k : Nat) : Int))
    have s2 : (ptab n i fun k => ((T k : Nat) : Int)).set i (quo (q.hi.getD i 0) q.st) = ptab n (i + 1) fun k => ((T k : Nat) : Int) := by rw [b4.1]; exact ptab_set (f := fun k => ((T k : Nat) : Int))
    have l3 : (ptab n (i + 1) fun k => ((F k : Nat) : Int)).length = n := ptab_len
    have l4 : (ptab n (i + 1) fun k => ((T k : Nat) : Int)).length = n := ptab_len
    have e3 : (ptab n (i + 1) fun k => ((F k : Nat) : Int)).getD i 0 = ((F i : Nat) : Int) := ptab_get (Nat.lt_succ_self i) hi2
    have e4 : (ptab n (i + 1) fun k => ((T k : Nat) : Int)).getD i 0 = ((T i : Nat) : Int) := ptab_get (Nat.lt_succ_self i) hi2
    have g3 : ((ptab n i fun k => ((F k : Nat) : Int)).set i (quo (q.lo.getD i 0 + q.st - 1) q.st)).getD i 0 = ((F i : Nat) : Int) := by rw [s1, e3]
    have g4 : ((ptab n i fun k => ((T k : Nat) : Int)).set i (quo (q.hi.getD i 0) q.st)).getD i 0 = ((T i : Nat) : Int) := by rw [s2, e4]
    repeat' (first
      | exact q1
      | exact q2
      | refine GZy_i_2i_L2iJ (And.intro ll (And.intro lh (And.intro l1 (And.intro l2 (And.intro g3 g4))))) ?_ ?_ ?_ ?_ ?_ ?_ ?_ ?_
      | with_reducible first | exact BzZq.mk | refine Tw.ret ?_ | refine ImZq.i fun h => ?_ | refine IkZq.i fun hk => ?_)
    refine ⟨i + 1, ⟨by omega, by omega⟩, by omega, TWk.fcanon env [some 0, some 1, some 2, some 3, some 4] (by rfl) ?_⟩
    repeat' (first
      | exact s1.symm
      | exact s2.symm
      | with_reducible first | exact Conj.nil | refine Conj.cons rfl ?_ | refine Conj.same ?_ | refine Conj.ask ?_ ?_
      | ((with_reducible refine Due.mk ?_); (first | with_reducible rfl | omega | assumption | decide | ((try simp only [goS] at *) <;> (try intro h) <;> (try intro h') <;> (try simp only [goS] at *) <;> (try simp only [rdi, rd2i, rdL2iJ, Int.toNat_natCast, Nat.add_zero] at *) <;> (try simp only [rng]) <;> (first | assumption | omega)) | (exact due_app0 (by omega)) | (exact due_app (by omega)) | (intros; simp; done) | (intros; simp; omega)))
      | with_reducible refine Due.mk ?_
      | omega)
theorem iq_run (p : Prf) (q : Ask) (n : Nat) (F T : Nat → Nat) (b : BoxF q n F T) (il : p.inks.length = n) (hk1 : ∀ j, j < n → F j ≤ T j) (x : SBox) (xp : x.p = p) (xq : x.q = q) (xn : x.n = n) (lo2 hi2 : List Int) (b2 : Option (List Nat)) (far2 : Int) (fr to : List Nat) (efr : fr = tab n F) (eto : to = tab n T)
    (tc1 : TC R Try.prog __inverse_search__run_f [.ptr 4 0] (rowsS x (List.replicate n (0 : Int)) (List.replicate n (0 : Int)) fr to none 0) (fun v X => v = .tup [] ∧ X = rowsS x lo2 hi2 fr to b2 far2)) :
    TC R Try.prog inverse_Quick_f [.pel (encP p), .pel (encA q)] [] (fun v X => match b2 with
      | none => v = .tup [.nils, .int .i64 0, .int .i64 8] ∧ X = []
      | some ys => v = .tup [.sla 1 0 0 n, .int .i64 far2, .int .i64 0] ∧ X = [some (.arr Ei (nz ys))]) := by
  have eF : tab n (fun k => ((F k : Nat) : Int)) = nz fr := by rw [efr]; simp [nz, tab, List.map_map, Function.comp]
  have eT : tab n (fun k => ((T k : Nat) : Int)) = nz to := by rw [eto]; simp [nz, tab, List.map_map, Function.comp]
  cases b2 with
  | none =>
    dsimp only [rowsS, srow, encP, encA] at tc1 ⊢
    rw [xp, xq, xn] at tc1
    have n4 := b.n4
    have stb := b.st
    have ll := b.ll
    have lh := b.lh
    have dm : 0 ≤ (p.inks.length : Int) ∧ (p.inks.length : Int) ≤ (p.inks.length : Int) ∧ (p.inks.length : Int) ≤ 281474976710656 ∧ ((8 : Nat) : Int) * (p.inks.length : Int) ≤ 281474976710656 := by omega
    refine tc0 env inverse_Quick_s (by rfl) ?_
    dsimp only [inverse_Quick_c, encP, encA]
    repeat' (first
      | exact dm
      | refine GZp_i_2i_L2iJ ?_ ?_ ?_ ?_ ?_ ?_ ?_ ?_
      | with_reducible first | exact BzZq.mk | refine Tw.ret ?_ | refine ImZq.i fun h => ?_ | refine IkZq.i fun hk => ?_)
    rw [il, Int.toNat_natCast]
    refine Tw.loopK [1, 8, 27] (fun i : Nat => i ≤ n ∧ True) (fun i => n - i) (fun i => [(28, .int .i64 i)])
      (fun i => [some (.arr Ei (List.replicate n (0 : Int))), some (.arr Ei (List.replicate n (0 : Int))), some (.arr Ei (ptab n i fun k => ((F k : Nat) : Int))), some (.arr Ei (ptab n i fun k => ((T k : Nat) : Int))), some (srow p q n .nils 0)]) ⟨0, ⟨by omega, trivial⟩, TWk.fcanon env [some 0, some 1, some 2, some 3, some 4] (by rfl) ?_⟩ (fun i hi => ?_)
    · repeat' (first
        | exact ptab_zero
        | with_reducible first | exact Conj.nil | refine Conj.cons rfl ?_ | refine Conj.same ?_ | refine Conj.ask ?_ ?_
        | ((with_reducible refine Due.mk ?_); (first | with_reducible rfl | omega | assumption | decide | ((try simp only [goS] at *) <;> (try intro h) <;> (try intro h') <;> (try simp only [goS] at *) <;> (try simp only [rdi, rd2i, rdL2iJ, Int.toNat_natCast, Nat.add_zero] at *) <;> (try simp only [rng]) <;> (first | assumption | omega)) | (exact due_app0 (by omega)) | (exact due_app (by omega)) | (intros; simp; done) | (intros; simp; omega)))
        | with_reducible refine Due.mk ?_
        | omega)
    obtain ⟨hi, hj⟩ := hi
    have l1 : (ptab n i fun k => ((F k : Nat) : Int)).length = n := ptab_len
    have l2 : (ptab n i fun k => ((T k : Nat) : Int)).length = n := ptab_len
    rcases Nat.lt_or_ge i n with hi2 | hi2
    · have hh2 := hk1 i (by omega)
      have b1 := b.lb i hi2
      have b2 := b.hb i hi2
      have b3 := b.f i hi2
      have b4 := b.t i hi2
      have q1 : rng .i64 (quo (q.lo.getD i 0 + q.st - 1) q.st) := by rw [b3.1]; simp only [rng]; omega
      have q2 : rng .i64 (quo (q.hi.getD i 0) q.st) := by rw [b4.1]; simp only [rng]; omega
      have s1 : (ptab n i fun k => ((F k : Nat) : Int)).set i (quo (q.lo.getD i 0 + q.st - 1) q.st) = ptab n (i + 1) fun k => ((F k : Nat) : Int) := by rw [b3.1]; exact ptab_set (f := fun k => ((F k : Nat) : Int))
      have s2 : (ptab n i fun k => ((T k : Nat) : Int)).set i (quo (q.hi.getD i 0) q.st) = ptab n (i + 1) fun k => ((T k : Nat) : Int) := by rw [b4.1]; exact ptab_set (f := fun k => ((T k : Nat) : Int))
      have l3 : (ptab n (i + 1) fun k => ((F k : Nat) : Int)).length = n := ptab_len
      have l4 : (ptab n (i + 1) fun k => ((T k : Nat) : Int)).length = n := ptab_len
      have e3 : (ptab n (i + 1) fun k => ((F k : Nat) : Int)).getD i 0 = ((F i : Nat) : Int) := ptab_get (Nat.lt_succ_self i) hi2
      have e4 : (ptab n (i + 1) fun k => ((T k : Nat) : Int)).getD i 0 = ((T i : Nat) : Int) := ptab_get (Nat.lt_succ_self i) hi2
      have g3 : ((ptab n i fun k => ((F k : Nat) : Int)).set i (quo (q.lo.getD i 0 + q.st - 1) q.st)).getD i 0 = ((F i : Nat) : Int) := by rw [s1, e3]
      have g4 : ((ptab n i fun k => ((T k : Nat) : Int)).set i (quo (q.hi.getD i 0) q.st)).getD i 0 = ((T i : Nat) : Int) := by rw [s2, e4]
      repeat' (first
        | exact q1
        | exact q2
        | refine GZy_i_2i_L2iJ (And.intro ll (And.intro lh (And.intro l1 (And.intro l2 (And.intro g3 g4))))) ?_ ?_ ?_ ?_ ?_ ?_ ?_ ?_
        | with_reducible first | exact BzZq.mk | refine Tw.ret ?_ | refine ImZq.i fun h => ?_ | refine IkZq.i fun hk => ?_)
      refine ⟨i + 1, ⟨by omega, trivial⟩, by omega, TWk.fcanon env [some 0, some 1, some 2, some 3, some 4] (by rfl) ?_⟩
      repeat' (first
        | exact s1.symm
        | exact s2.symm
        | with_reducible first | exact Conj.nil | refine Conj.cons rfl ?_ | refine Conj.same ?_ | refine Conj.ask ?_ ?_
        | ((with_reducible refine Due.mk ?_); (first | with_reducible rfl | omega | assumption | decide | ((try simp only [goS] at *) <;> (try intro h) <;> (try intro h') <;> (try simp only [goS] at *) <;> (try simp only [rdi, rd2i, rdL2iJ, Int.toNat_natCast, Nat.add_zero] at *) <;> (try simp only [rng]) <;> (first | assumption | omega)) | (exact due_app0 (by omega)) | (exact due_app (by omega)) | (intros; simp; done) | (intros; simp; omega)))
        | with_reducible refine Due.mk ?_
        | omega)
    obtain rfl : i = n := by omega
    rw [ptab_all, ptab_all, eF, eT]
    repeat' (first
      | ((with_reducible refine TOps.any ?_); refine TOps.callHE env [0, 1, 2, 3, 4] (tc1) (by rfl) (by rfl) (by rfl) (by rfl) (by rfl) (by rfl) (by repeat' (first | exact trivial | refine ⟨rfl, ?_⟩)) ?_)
      | refine GZp_i_2i_L2iJ ?_ ?_ ?_ ?_ ?_ ?_ ?_ ?_
      | with_reducible first | exact BzZq.mk | refine Tw.ret ?_ | refine ImZq.i fun h => ?_ | refine IkZq.i fun hk => ?_)
    exact ⟨rfl, rfl, rfl⟩
  | some ys =>
    obtain ⟨kk, hk⟩ : ∃ kk, n = kk + 1 := ⟨n - 1, by have := b.n4; omega⟩
    dsimp only [rowsS, srow, encP, encA] at tc1 ⊢
    rw [xp, xq, xn] at tc1
    have n4 := b.n4
    have stb := b.st
    have ll := b.ll
    have lh := b.lh
    have dm : 0 ≤ (p.inks.length : Int) ∧ (p.inks.length : Int) ≤ (p.inks.length : Int) ∧ (p.inks.length : Int) ≤ 281474976710656 ∧ ((8 : Nat) : Int) * (p.inks.length : Int) ≤ 281474976710656 := by omega
    refine tc env inverse_Quick_s (by rfl) ?_
    dsimp only [inverse_Quick_c, encP, encA]
    repeat' (first
      | exact dm
      | refine GZp_i_2i_L2iJ ?_ ?_ ?_ ?_ ?_ ?_ ?_ ?_
      | with_reducible first | exact BzZq.mk | refine Tw.ret ?_ | refine ImZq.i fun h => ?_ | refine IkZq.i fun hk => ?_)
    rw [il, Int.toNat_natCast]
    refine Tw.loopK [1, 8, 27] (fun i : Nat => i ≤ n ∧ True) (fun i => n - i) (fun i => [(28, .int .i64 i)])
      (fun i => [some (.arr Ei (List.replicate n (0 : Int))), some (.arr Ei (List.replicate n (0 : Int))), some (.arr Ei (ptab n i fun k => ((F k : Nat) : Int))), some (.arr Ei (ptab n i fun k => ((T k : Nat) : Int))), some (srow p q n .nils 0)]) ⟨0, ⟨by omega, trivial⟩, TWk.fcanon env [some 0, some 1, some 2, some 3, some 4] (by rfl) ?_⟩ (fun i hi => ?_)
    · repeat' (first
        | exact ptab_zero
        | with_reducible first | exact Conj.nil | refine Conj.cons rfl ?_ | refine Conj.same ?_ | refine Conj.ask ?_ ?_
        | ((with_reducible refine Due.mk ?_); (first | with_reducible rfl | omega | assumption | decide | ((try simp only [goS] at *) <;> (try intro h) <;> (try intro h') <;> (try simp only [goS] at *) <;> (try simp only [rdi, rd2i, rdL2iJ, Int.toNat_natCast, Nat.add_zero] at *) <;> (try simp only [rng]) <;> (first | assumption | omega)) | (exact due_app0 (by omega)) | (exact due_app (by omega)) | (intros; simp; done) | (intros; simp; omega)))
        | with_reducible refine Due.mk ?_
        | omega)
    obtain ⟨hi, hj⟩ := hi
    have l1 : (ptab n i fun k => ((F k : Nat) : Int)).length = n := ptab_len
    have l2 : (ptab n i fun k => ((T k : Nat) : Int)).length = n := ptab_len
    rcases Nat.lt_or_ge i n with hi2 | hi2
    · have hh2 := hk1 i (by omega)
      have b1 := b.lb i hi2
      have b2 := b.hb i hi2
      have b3 := b.f i hi2
      have b4 := b.t i hi2
      have q1 : rng .i64 (quo (q.lo.getD i 0 + q.st - 1) q.st) := by rw [b3.1]; simp only [rng]; omega
      have q2 : rng .i64 (quo (q.hi.getD i 0) q.st) := by rw [b4.1]; simp only [rng]; omega
      have s1 : (ptab n i fun k => ((F k : Nat) : Int)).set i (quo (q.lo.getD i 0 + q.st - 1) q.st) = ptab n (i + 1) fun k => ((F k : Nat) : Int) := by rw [b3.1]; exact ptab_set (f := fun k => ((F k : Nat) : Int))
      have s2 : (ptab n i fun k => ((T k : Nat) : Int)).set i (quo (q.hi.getD i 0) q.st) = ptab n (i + 1) fun k => ((T k : Nat) : Int) := by rw [b4.1]; exact ptab_set (f := fun k => ((T k : Nat) : Int))
      have l3 : (ptab n (i + 1) fun k => ((F k : Nat) : Int)).length = n := ptab_len
      have l4 : (ptab n (i + 1) fun k => ((T k : Nat) : Int)).length = n := ptab_len
      have e3 : (ptab n (i + 1) fun k => ((F k : Nat) : Int)).getD i 0 = ((F i : Nat) : Int) := ptab_get (Nat.lt_succ_self i) hi2
      have e4 : (ptab n (i + 1) fun k => ((T k : Nat) : Int)).getD i 0 = ((T i : Nat) : Int) := ptab_get (Nat.lt_succ_self i) hi2
      have g3 : ((ptab n i fun k => ((F k : Nat) : Int)).set i (quo (q.lo.getD i 0 + q.st - 1) q.st)).getD i 0 = ((F i : Nat) : Int) := by rw [s1, e3]
      have g4 : ((ptab n i fun k => ((T k : Nat) : Int)).set i (quo (q.hi.getD i 0) q.st)).getD i 0 = ((T i : Nat) : Int) := by rw [s2, e4]
      repeat' (first
        | exact q1
        | exact q2
        | refine GZy_i_2i_L2iJ (And.intro ll (And.intro lh (And.intro l1 (And.intro l2 (And.intro g3 g4))))) ?_ ?_ ?_ ?_ ?_ ?_ ?_ ?_
        | with_reducible first | exact BzZq.mk | refine Tw.ret ?_ | refine ImZq.i fun h => ?_ | refine IkZq.i fun hk => ?_)
      refine ⟨i + 1, ⟨by omega, trivial⟩, by omega, TWk.fcanon env [some 0, some 1, some 2, some 3, some 4] (by rfl) ?_⟩
      repeat' (first
        | exact s1.symm
        | exact s2.symm
        | with_reducible first | exact Conj.nil | refine Conj.cons rfl ?_ | refine Conj.same ?_ | refine Conj.ask ?_ ?_
        | ((with_reducible refine Due.mk ?_); (first | with_reducible rfl | omega | assumption | decide | ((try simp only [goS] at *) <;> (try intro h) <;> (try intro h') <;> (try simp only [goS] at *) <;> (try simp only [rdi, rd2i, rdL2iJ, Int.toNat_natCast, Nat.add_zero] at *) <;> (try simp only [rng]) <;> (first | assumption | omega)) | (exact due_app0 (by omega)) | (exact due_app (by omega)) | (intros; simp; done) | (intros; simp; omega)))
        | with_reducible refine Due.mk ?_
        | omega)
    obtain rfl : i = n := by omega
    rw [ptab_all, ptab_all, eF, eT]
    repeat' (first
      | ((with_reducible refine TOps.any ?_); refine TOps.callHE env [0, 1, 2, 3, 4] (tc1) (by rfl) (by rfl) (by rfl) (by rfl) (by rfl) (by rfl) (by repeat' (first | exact trivial | refine ⟨rfl, ?_⟩)) ?_)
      | refine GZp_i_2i_L2iJ ?_ ?_ ?_ ?_ ?_ ?_ ?_ ?_
      | with_reducible first | exact BzZq.mk | refine Tw.ret ?_ | refine ImZq.i fun h => ?_ | refine IkZq.i fun hk => ?_)
    subst hk
    repeat' (first
      | ((with_reducible refine Tw.retI ?_); refine Tw.gc env [5] [4, 5, 6] (by rfl) (by rfl) ?_ (Tw.ret ?_))
      | refine GZp_i_2i_L2iJ ?_ ?_ ?_ ?_ ?_ ?_ ?_ ?_
      | with_reducible first | exact BzZq.mk | refine Tw.ret ?_ | refine ImZq.i fun h => ?_ | refine IkZq.i fun hk => ?_)
    all_goals exact ⟨rfl, rfl⟩
end Go.Proofs.Ytkapjajlkpepmaa
