/- Inverse: Quick finds the best candidate; Find. -/
import Derived.Test.YtkapjajlkpepmaaInv11
import Derived.Test.YtkapjajlkpepmaaGo
namespace Go.Proofs.Ytkapjajlkpepmaa
open Go Go.Lite
set_option linter.unusedVariables false
set_option linter.unusedSimpArgs false
set_option maxRecDepth 100000
set_option maxHeartbeats 4000000
-- @simp rdi rd2i rdL2iJ

theorem ex_first {P : Nat → Prop} : ∀ {n : Nat}, (¬ ∀ k, k < n → P k) → ∃ k, k < n ∧ ¬ P k ∧ ∀ j, j < k → P j
  | 0, h => absurd (fun k hk => by omega) h
  | n + 1, h => by
    by_cases h1 : ∀ k, k < n → P k
    · refine ⟨n, by omega, fun hp => h fun k hk => ?_, h1⟩
      by_cases e : k = n
      · subst e; exact hp
      · exact h1 k (by omega)
    · obtain ⟨k, a, b, c⟩ := ex_first h1
      exact ⟨k, by omega, b, c⟩
theorem boxF_ok {p : Prf} {q : Ask} {n s : Nat} (h : PrfOk p n s) (a : AskOk n q) : BoxF q n (boxOf p q n s).F (boxOf p q n s).T := by
  have gi := h.g.i1
  obtain ⟨st, est⟩ : ∃ st : Nat, q.st = st := ⟨q.st.toNat, by have := a.st; unfold stepOk at this; omega⟩
  have stb : 5 ≤ st ∧ st ≤ 255 := by have := a.st; unfold stepOk at this; omega
  obtain ⟨L1, L2⟩ := tonesE_ok.1 a.lo
  obtain ⟨M1, M2⟩ := tonesE_ok.1 a.hi
  have xF : ∀ k, (boxOf p q n s).F k = ((q.lo.getD k 0).toNat + st - 1) / st := fun k => by show ((q.lo.getD k 0).toNat + q.st.toNat - 1) / q.st.toNat = _; rw [est, Int.toNat_natCast]
  have xT : ∀ k, (boxOf p q n s).T k = (q.hi.getD k 0).toNat / st := fun k => by show (q.hi.getD k 0).toNat / q.st.toNat = _; rw [est, Int.toNat_natCast]
  refine ⟨gi, by omega, by omega, by omega, fun k hk => L2 k (by omega), fun k hk => M2 k (by omega), fun k hk => ?_, fun k hk => ?_⟩
  · have := L2 k (by omega)
    rw [xF, est, quo_nn (by omega)]
    obtain ⟨l, el⟩ : ∃ l : Nat, q.lo.getD k 0 = l := ⟨(q.lo.getD k 0).toNat, by omega⟩
    rw [el, Int.toNat_natCast, show (l : Int) + (st : Int) - 1 = ((l + st - 1 : Nat) : Int) by omega]
    refine ⟨by simp, ?_⟩
    have h1 : (l + st - 1) / st * st ≤ l + st - 1 := Nat.div_mul_le_self _ _
    have h2 : (l + st - 1) / st * 5 ≤ (l + st - 1) / st * st := Nat.mul_le_mul_left _ stb.1
    omega
  · have := M2 k (by omega)
    rw [xT, est, quo_nn (by omega)]
    obtain ⟨l, el⟩ : ∃ l : Nat, q.hi.getD k 0 = l := ⟨(q.hi.getD k 0).toNat, by omega⟩
    rw [el, Int.toNat_natCast]
    refine ⟨by simp, ?_⟩
    have h1 : l / st * st ≤ l := Nat.div_mul_le_self _ _
    have h2 : l / st * 5 ≤ l / st * st := Nat.mul_le_mul_left _ stb.1
    omega
theorem iquick_x (p : Prf) (q : Ask) (n s : Nat) (h : PrfOk p n s) (a : AskOk n q) :
    ((∀ zs, ¬ cand (boxOf p q n s) (boxOf p q n s).F (boxOf p q n s).T zs) ∧ TC R Try.prog inverse_Quick_f [.pel (encP p), .pel (encA q)] [] (fun v X => v = .tup [.nils, .int .i64 0, .int .i64 8] ∧ X = [])) ∨
    ∃ ys, isBest (boxOf p q n s) ys ∧ TC R Try.prog inverse_Quick_f [.pel (encP p), .pel (encA q)] [] (fun v X => v = .tup [.sla 1 0 0 n, .int .i64 (sdst (boxOf p q n s) ys), .int .i64 0] ∧ X = [some (.arr Ei (nz ys))]) := by
  have hx := boxOf_ok h a
  have bf := boxF_ok h a
  have gi := h.g.i1
  have x1 : (boxOf p q n s).p = p := rfl
  have x2 : (boxOf p q n s).q = q := rfl
  have x3 : (boxOf p q n s).n = n := rfl
  generalize boxOf p q n s = x at *
  by_cases hft : ∀ k, k < n → x.F k ≤ x.T k
  · obtain ⟨fr, efr⟩ : ∃ fr, fr = tab n x.F := ⟨_, rfl⟩
    obtain ⟨to, eto⟩ : ∃ to, to = tab n x.T := ⟨_, rfl⟩
    have fg : ∀ k, k < n → fr.getD k 0 = x.F k := fun k hk => by rw [efr, tab_get hk]
    have tg : ∀ k, k < n → to.getD k 0 = x.T k := fun k hk => by rw [eto, tab_get hk]
    obtain ⟨lo2, hi2, b2, far2, _, _, d, tc1⟩ := run_all x hx _ (List.replicate n (0 : Int)) (List.replicate n (0 : Int)) fr to none 0 (by simp [x3]) (by simp [x3]) (by rw [efr, x3]; exact tab_len) (by rw [eto, x3]; exact tab_len) (fun k hk => by
      rw [x3] at hk
      rw [fg k hk, tg k hk]
      have := hft k hk
      omega) (Nat.lt_succ_self _) trivial
    have all : ∀ zs, cand x x.F x.T zs → le2 x.n b2 far2 zs (sdst x zs) := fun zs c => d.all zs ⟨c.1, fun k hk => by
      obtain ⟨j, h1, h2, h3⟩ := c.2.1 k hk
      rw [x3] at hk
      exact ⟨j, by dsimp only; rw [fg k hk]; exact h1, by dsimp only; rw [tg k hk]; exact h2, h3⟩, c.2.2⟩
    have q1 := iq_run p q n x.F x.T bf h.il hft x x1 x2 x3 lo2 hi2 b2 far2 fr to efr eto tc1
    cases b2 with
    | none => exact .inl ⟨fun zs c => all zs c, q1⟩
    | some ys =>
      obtain ⟨c, e⟩ := d.ok
      refine .inr ⟨ys, ⟨c, fun zs cz => ?_⟩, ?_⟩
      · have := all zs cz
        rw [← e]; exact this
      · rw [← e]; exact q1
  · obtain ⟨k0, a1, a2, a3⟩ := ex_first hft
    refine .inl ⟨fun zs c => ?_, iq_none p q n x.F x.T bf h.il k0 a1 (by omega) a3⟩
    obtain ⟨j, h1, h2, _⟩ := c.2.1 k0 (by omega)
    omega
end Go.Proofs.Ytkapjajlkpepmaa
